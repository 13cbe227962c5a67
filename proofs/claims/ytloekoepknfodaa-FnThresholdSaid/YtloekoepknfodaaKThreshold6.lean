import Derived.Test.YtloekoepknfodaaKThreshold2
import Derived.Test.YtloekoepknfodaaM40
import Derived.Shelf.GgClosure.Gives
import Derived.Deep.RegionHeld3
import Derived.Laws.IdiomCopy
import Derived.BigRegion
import Derived.Lib.SliceRun
namespace Go.Proofs.Ytloekoepknfodaa.Print
open Go.RowKit Go.Proofs.YtloekoepknfodaaW.PrintWords Go.Proofs.YtloekoepknfodaaW.PrintLast Go.Proofs.YtloekoepknfodaaW.PrintMore
attribute [local go_sem] max2_int min2_int max_two min_two max_three min_three max_four min_four   -- for this text's walks alone
set_option linter.unusedVariables false
set_option linter.unusedSimpArgs false
set_option maxHeartbeats 8000000
set_option maxRecDepth 100000
private theorem sT_ {α : Type _} (l : List α) (i : Nat) (a : α) : l.toArray.setIfInBounds i a = (l.set i a).toArray := List.setIfInBounds_toArray ..
private theorem s0_ {α : Type _} {x y : α} {l : List α} : (x :: l).set 0 y = y :: l := rfl
private theorem s1_ {α : Type _} {x y : α} {l : List α} {n : Nat} : (x :: l).set (n + 1) y = x :: l.set n y := rfl
def spec_l16Draw.l0 : Nat → List Int → Int → List Int → Int → Int → Option (Int × Int × Int × Int)
 | 0, _, _, _, _, _ => none
 | k + 1, x3, x4, x1000, x1001, x1002 => if x4 > 0 then ((spec_l1Below.f x1000 x1001 x1002 7).bind fun bt194 => (if x3.length < 17592186044416 then (spec_l16Draw.l0 k (x3 ++ [wrap64 (bt194.1 - 3)]) (wrap64 (x4 - 1)) x1000 bt194.2.1 bt194.2.2) else (none))) else ((spec_l1Below.f x1000 x1001 x1002 7).bind fun bt200 => ((spec_TableOfWeights.f k x3 (wrap64 (bt200.1 - 2))).bind fun bt203 => (some (bt203.1, bt203.2.1, bt200.2.1, bt200.2.2))))
def spec_l16Draw.f (k : Nat) (s0_0 : List Int) (s0_1 : Int) (s0_2 : Int) : Option (Int × Int × Int × Int) := (spec_l1Once.f s0_0 s0_1 s0_2 3).bind fun bt181 => (if bt181.1 = true then ((spec_l2Any.f k s0_0 bt181.2.1 bt181.2.2).bind fun bt184 => (some (bt184.1, bt184.2.1, bt184.2.2.1, bt184.2.2.2))) else ((spec_l1Below.f s0_0 bt181.2.1 bt181.2.2 5).bind fun bt191 => (spec_l16Draw.l0 k (([] : List Int)) bt191.1 s0_0 bt191.2.1 bt191.2.2)))
theorem spec_l16Draw.calls (k : Nat) (g : Nat) (s0_0 : List Int) (s0_1 : Int) (s0_2 : Int) (r1 : Int) (r2 : Int) (r3 : Int) (r4 : Int) (w0 w : World) (hI : IsS72 w0 w g s0_0 s0_1 s0_2) (hB : Below w0.heap.size w0 w) (h : spec_l16Draw.f k s0_0 s0_1 s0_2 = some (r1, r2, r3, r4)) :
  Calls Try.prog 28 #[.pointer (some ⟨g, 0, none⟩)] w fun e w' => e = .returned (.agg #[.int .i64 r1, .int .i64 r2]) ∧ IsS72 w0 w' g s0_0 r3 r4 ∧ Below w0.heap.size w0 w' ∧ KeepBut w w' g none := by
 have hu25 := Try.underlying25
 have HI0 := A_ hI
 have HK := A_ (KeepBut.refl w g none)
 have HL := A_ hB.size
 clear hI
 have HW0 := A_ hB.size
 have HB := A_ hB; clear hB
 have H : ((spec_l1Once.f s0_0 s0_1 s0_2 3).bind fun bt181 => (if bt181.1 = true then ((spec_l2Any.f k s0_0 bt181.2.1 bt181.2.2).bind fun bt184 => (some (bt184.1, bt184.2.1, bt184.2.2.1, bt184.2.2.2))) else ((spec_l1Below.f s0_0 bt181.2.1 bt181.2.2 5).bind fun bt191 => (spec_l16Draw.l0 k (([] : List Int)) bt191.1 s0_0 bt191.2.1 bt191.2.2)))) = some (r1, r2, r3, r4) := h
 clear h; replace H := Option.bind_eq_some_iff.mp H; obtain ⟨⟨t181, t182, t183⟩, A20, H⟩ := H; (try dsimp only at H); have A2 := A_ A20; clear A20
 by_cases c3 : t181 = true
 ·subst c3
  have H1 : ((spec_l2Any.f k s0_0 t182 t183).bind fun bt184 => (some (bt184.1, bt184.2.1, bt184.2.2.1, bt184.2.2.2))) = some (r1, r2, r3, r4) := by rw [if_pos rfl] at H; exact H
  clear H; have H := H1; clear H1; replace H := Option.bind_eq_some_iff.mp H; obtain ⟨⟨t184, t185, t186, t187⟩, A40, H⟩ := H
  replace H : (some (t184, t185, t186, t187)) = some (r1, r2, r3, r4) := H
  have A4 := A_ A40; clear A40
  simp only [Option.some.injEq, Prod.mk.injEq] at H
  obtain ⟨rfl, rfl, rfl, rfl⟩ := H
  go_enter Try.func28, Try.ntmps28
  go_wp2_with (first | ((with_reducible refine gate_dst (N := 2) rfl ?_); refine box_event ?hg (N := 2) ?hd (cs := #[.int .i64 0, .int .i64 0]) (t := 25) ?hr ?_; (case hd => rfl); (case hg => rfl); (case hr => first | (go_simp; done) | (go_simp; rfl)); intro gb180 hg w5 hbox hb; replace HB := A_ (below_step q3_ hb); have BK180 := A_ (hbox); have GW180 := A_ ((by rw [hg]; exact (keep_size (w := w) (g := g) (row := none) q4_) : w.heap.size ≤ gb180)); have GE180 := A_ ((Nat.le_trans HW0.out (by rw [hg]; exact (keep_size (w := w) (g := g) (row := none) q4_) : w.heap.size ≤ gb180) : w0.heap.size ≤ gb180)); replace HK := A_ (KeepBut.trans (w := w) q4_ (KeepBut.of_below hb g none) (.inl rfl)); have NB0_180 := A_ ((by rw [hg]; exact Nat.ne_of_lt (IsS72.lt (show IsS72 w0 _ g s0_0 s0_1 s0_2 from q8_)) : g ≠ gb180)); have NB180_0 := A_ ((by rw [hg]; exact Nat.ne_of_gt (IsS72.lt (show IsS72 w0 _ g s0_0 s0_1 s0_2 from q8_)) : gb180 ≠ g)); replace HI0 := A_ (IsS72.below q8_ hb); clear hb hbox hg) | ((with_reducible refine gate_callee (f := 51) rfl ?_); refine goesL_ (some 8) rfl rfl Try.func51 kr_ rfl #[.pointer (some ⟨g, 0, none⟩), .int .i64 3] rfl q2_ ?_; (with_reducible refine (spec_l1Once.calls g s0_0 s0_1 s0_2 3 true t182 t183 w0 _ ?side1 ?side2 A2.out).mono ?_); (case side1 => exact q6_); (case side2 => exact q3_); rintro e w6 ⟨rfl, hi, hb, hk⟩; refine ⟨_, rfl, ?_⟩; replace BK180 := A_ (KeepBut.blk hk (g' := gb180) (o := .cells #[.int .i64 0, .int .i64 0] 25 (0, 0)) (M.Lb BK180) NB180_0.out (by simp)); replace HK := A_ (KeepBut.trans (w := w) q4_ hk (.inl rfl)); replace HB := A_ (hb); replace HI0 := A_ (hi); (try clear hb); (try clear hb2); (try clear hk); (try clear hi)) | ((with_reducible refine gate_callee (f := 54) rfl ?_); refine goesL_ (some 10) rfl rfl Try.func54 kr_ rfl #[.pointer (some ⟨g, 0, none⟩)] rfl q2_ ?_; (with_reducible refine (spec_l2Any.calls k g s0_0 t182 t183 t184 t185 t186 t187 w0 _ ?side1 ?side2 A4.out).mono ?_); (case side1 => exact q6_); (case side2 => exact q3_); rintro e w7 ⟨rfl, hi, hb, hk⟩; refine ⟨_, rfl, ?_⟩; replace BK180 := A_ (KeepBut.blk hk (g' := gb180) (o := .cells #[.int .i64 0, .int .i64 0] 25 (0, 0)) (M.Lb BK180) NB180_0.out (by simp)); replace HK := A_ (KeepBut.trans (w := w) q4_ hk (.inl rfl)); replace HB := A_ (hb); replace HI0 := A_ (hi); (try clear hb); (try clear hb2); (try clear hk); (try clear hi); have hnb8 := NB180_0.out; have hnc8 := NB0_180.out; have hcz9_0 := c20_ BK180; have hcz9_1 := c21_ BK180; have hfz9_0 := blk_frozen BK180.out 0; have hfz9_1 := blk_frozen BK180.out 1))
  refine bodyPost_ret (results_cell_row rfl _ _ gb180 25 #[.int .i64 t184, .int .i64 t185] (0, 0) _ rfl (by (with_reducible repeat (first | refine blk_drewN ?_ _ | refine blk_drew ?_ | refine blk_alloc ?_ _)); refine blk_put (cs := #[.int .i64 t184, .int .i64 0]) ?_ 1 _ rfl; (with_reducible repeat (first | refine blk_drewN ?_ _ | refine blk_drew ?_ | refine blk_alloc ?_ _)); refine blk_put (cs := #[.int .i64 0, .int .i64 0]) ?_ 0 _ rfl; (with_reducible repeat (first | refine blk_drewN ?_ _ | refine blk_drew ?_ | refine blk_alloc ?_ _)); exact BK180.out) Try.underlying25 rfl kr_) rfl ?_
  exact ⟨q7_, q6_, q3_, q4_⟩
 ·replace c3 := Bool.eq_false_iff.mpr c3
  subst c3
  have H1 : ((spec_l1Below.f s0_0 t182 t183 5).bind fun bt191 => (spec_l16Draw.l0 k (([] : List Int)) bt191.1 s0_0 bt191.2.1 bt191.2.2)) = some (r1, r2, r3, r4) := by rw [if_neg (show ¬ (false = true) by decide)] at H; exact H
  clear H; have H := H1; clear H1
  obtain ⟨y188, hy188⟩ : ∃ y_ : List Int, y_ = (([] : List Int)) := ⟨_, rfl⟩
  replace H : ((spec_l1Below.f s0_0 t182 t183 5).bind fun bt191 => (spec_l16Draw.l0 k y188 bt191.1 s0_0 bt191.2.1 bt191.2.2)) = some (r1, r2, r3, r4) := by first | (rw [hy188]; with_reducible exact H) | (have H2_ := (Option.bind_some _ _).symm.trans H; rw [hy188]; with_reducible exact H2_) | (have H2_ := (Option.bind_some _ _).symm.trans H; with_reducible exact H2_) | with_reducible exact H | (rw [hy188]; exact H) | exact H
  have Ny188 := A_ hy188; clear hy188; replace H := Option.bind_eq_some_iff.mp H; obtain ⟨⟨t191, t192, t193⟩, A100, H⟩ := H
  replace H : (spec_l16Draw.l0 k y188 t191 s0_0 t192 t193) = some (r1, r2, r3, r4) := H
  have A10 := A_ A100; clear A100
  have H' := A_ H
  clear H
  go_enter Try.func28, Try.ntmps28
  go_wp2_with (first | ((with_reducible refine gate_dst (N := 2) rfl ?_); refine box_event ?hg (N := 2) ?hd (cs := #[.int .i64 0, .int .i64 0]) (t := 25) ?hr ?_; (case hd => rfl); (case hg => rfl); (case hr => first | (go_simp; done) | (go_simp; rfl)); intro gb180 hg w11 hbox hb; replace HB := A_ (below_step q3_ hb); have BK180 := A_ (hbox); have GW180 := A_ ((by rw [hg]; exact (keep_size (w := w) (g := g) (row := none) q4_) : w.heap.size ≤ gb180)); have GE180 := A_ ((Nat.le_trans HW0.out (by rw [hg]; exact (keep_size (w := w) (g := g) (row := none) q4_) : w.heap.size ≤ gb180) : w0.heap.size ≤ gb180)); replace HK := A_ (KeepBut.trans (w := w) q4_ (KeepBut.of_below hb g none) (.inl rfl)); have NB0_180 := A_ ((by rw [hg]; exact Nat.ne_of_lt (IsS72.lt (show IsS72 w0 _ g s0_0 s0_1 s0_2 from q8_)) : g ≠ gb180)); have NB180_0 := A_ ((by rw [hg]; exact Nat.ne_of_gt (IsS72.lt (show IsS72 w0 _ g s0_0 s0_1 s0_2 from q8_)) : gb180 ≠ g)); replace HI0 := A_ (IsS72.below q8_ hb); clear hb hbox hg) | ((with_reducible refine gate_callee (f := 51) rfl ?_); refine goesL_ (some 8) rfl rfl Try.func51 kr_ rfl #[.pointer (some ⟨g, 0, none⟩), .int .i64 3] rfl q2_ ?_; (with_reducible refine (spec_l1Once.calls g s0_0 s0_1 s0_2 3 false t182 t183 w0 _ ?side1 ?side2 A2.out).mono ?_); (case side1 => exact q6_); (case side2 => exact q3_); rintro e w12 ⟨rfl, hi, hb, hk⟩; refine ⟨_, rfl, ?_⟩; replace BK180 := A_ (KeepBut.blk hk (g' := gb180) (o := .cells #[.int .i64 0, .int .i64 0] 25 (0, 0)) (M.Lb BK180) NB180_0.out (by simp)); replace HK := A_ (KeepBut.trans (w := w) q4_ hk (.inl rfl)); replace HB := A_ (hb); replace HI0 := A_ (hi); (try clear hb); (try clear hb2); (try clear hk); (try clear hi)) | ((with_reducible refine gate_dst (N := 11) rfl ?_); refine Kd.R_lit (Kd.int .i64) _ 3 ?hg (N := 11) ?hd (xs := ([] : List Int)) (inner := []) (ok := fun _ => True) (okp := fun _ => True) ?hr ?hp (fun _ hk => hk) trivial (Below.refl _ _) (Nat.le_refl _) (by simp) ?_; (case hd => rfl); (case hg => rfl); (case hr => first | (go_simp; done) | (go_simp; rfl)); (case hp => exact (Reps.none _ _)); intro v189 w13 ho14 hb hg_ hnew_; clear hg_ hnew_; (first | rw [← Ny188.out] at ho14 | (simp only [Int.reduceToNat] at ho14; rw [← Ny188.out] at ho14)); have HO190 := A_ (Kd.R_lower ho14 (keep_size (w := w) (g := g) (row := none) q4_)); replace BK180 := A_ (blk_below (M.Lb BK180) hb); replace HK := A_ (KeepBut.trans (w := w) q4_ (KeepBut.of_below hb g none) (.inl rfl)); replace HB := A_ (below_step q3_ hb); replace HI0 := A_ (IsS72.below q6_ hb); clear hb ho14) | ((with_reducible refine gate_callee (f := 50) rfl ?_); refine goesL_ (some 13) rfl rfl Try.func50 kr_ rfl #[.pointer (some ⟨g, 0, none⟩), .int .i64 5] rfl q2_ ?_; (with_reducible refine (spec_l1Below.calls g s0_0 t182 t183 5 t191 t192 t193 w0 _ ?side1 ?side2 A10.out).mono ?_); (case side1 => exact q6_); (case side2 => exact q3_); rintro e w15 ⟨rfl, hi, hb, hk⟩; refine ⟨_, rfl, ?_⟩; replace BK180 := A_ (KeepBut.blk hk (g' := gb180) (o := .cells #[.int .i64 0, .int .i64 0] 25 (0, 0)) (M.Lb BK180) NB180_0.out (by simp)); replace HO190 := A_ (Kd.R_mono (Kd.R_keep (IsS72.apart (show IsS72 w0 _ g s0_0 t182 t183 from q6_) (M.Lr HO190) (by decide)) hk (fun _ h => h.2)) (fun _ h => h.1)); replace HK := A_ (KeepBut.trans (w := w) q4_ hk (.inl rfl)); replace HB := A_ (hb); replace HI0 := A_ (hi); (try clear hb); (try clear hb2); (try clear hk); (try clear hi)))
  go_loopg [3, 4] k (fun kq v3 v4 w' => ∃ (x3_1 : List Int) (x4_1 : Int) (x1001_1 : Int) (x1002_1 : Int), v4 = .int .i64 x4_1 ∧ Aside0 (spec_l16Draw.l0 kq x3_1 x4_1 s0_0 x1001_1 x1002_1 = some (r1, r2, r3, r4)) ∧ Aside0 (kq ≤ k) ∧ Aside0 (Kd.R (Kd.int .i64) 3 w' w.heap.size (fun _ => True) v3 x3_1) ∧ Aside0 (w'.heap[gb180]? = some (.cells #[.int .i64 0, .int .i64 0] 25 (0, 0))) ∧ Aside0 (IsS72 w0 w' g s0_0 x1001_1 x1002_1) ∧ Aside0 (KeepBut w w' g none) ∧ Aside0 (Below w0.heap.size w0 w'))
  case atStart => exact ⟨(y188), (t191), (t192), (t193), q1_, H', ⟨Nat.le_refl _⟩, ⟨M.Lr HO190⟩, ⟨M.Lb BK180⟩, ⟨q6_⟩, ⟨q4_⟩, ⟨q3_⟩⟩
  case round =>
   clear H'; (try clear c2); (try clear p2); (try clear c3); (try clear c5); (try clear c8); (try clear hcz9_0); (try clear hcz9_1); (try clear hfz9_0); (try clear hfz9_1); obtain ⟨x3_1, x4_1, x1001_1, x1002_1, rfl, HA, HK1, HO_3, BK180, HI0, HK, HB⟩ := hrel
   cases gk with
   | zero => exact absurd HA.out (by simp [spec_l16Draw.l0])
   | succ k1 =>
    have H := HA.out
    clear HA
    simp only [spec_l16Draw.l0] at H
    by_cases c16 : x4_1 > 0
    ·rw [if_pos c16] at H
     have c16b0 : decide (0 < x4_1) = true := decide_eq_true c16
     clear c16; replace H := Option.bind_eq_some_iff.mp H; obtain ⟨⟨t194, t195, t196⟩, A170, H⟩ := H; (try dsimp only at H); have A17 := A_ A170; clear A170
     by_cases c18 : x3_1.length < 17592186044416
     ·rw [if_pos c18] at H; have LMc18 := A_ c18; clear c18
      obtain ⟨y197, hy197⟩ : ∃ y_ : List Int, y_ = (x3_1 ++ [wrap64 (t194 - 3)]) := ⟨_, rfl⟩
      replace H : (spec_l16Draw.l0 k1 y197 (wrap64 (x4_1 - 1)) s0_0 t195 t196) = some (r1, r2, r3, r4) := by first | (rw [hy197]; with_reducible exact H) | (have H2_ := (Option.bind_some _ _).symm.trans H; rw [hy197]; with_reducible exact H2_) | (have H2_ := (Option.bind_some _ _).symm.trans H; with_reducible exact H2_) | with_reducible exact H | (rw [hy197]; exact H) | exact H
      have Ny197 := A_ hy197; clear hy197
      have H' := A_ H
      clear H
      go_wp2_with (first | ((with_reducible refine gate_callee (f := 50) rfl ?_); refine goesL_ (some 20) rfl rfl Try.func50 kr_ rfl #[.pointer (some ⟨g, 0, none⟩), .int .i64 7] rfl q2_ ?_; (with_reducible refine (spec_l1Below.calls g s0_0 x1001_1 x1002_1 7 t194 t195 t196 w0 _ ?side1 ?side2 A17.out).mono ?_); (case side1 => exact q6_); (case side2 => exact q3_); rintro e w19 ⟨rfl, hi, hb, hk⟩; refine ⟨_, rfl, ?_⟩; replace HO_3 := A_ (Kd.R_mono (Kd.R_keep (IsS72.apart (show IsS72 w0 _ g s0_0 x1001_1 x1002_1 from q6_) (M.Lr HO_3) (by decide)) hk (fun _ h => h.2)) (fun _ h => h.1)); replace BK180 := A_ (KeepBut.blk hk (g' := gb180) (o := .cells #[.int .i64 0, .int .i64 0] 25 (0, 0)) (M.Lb BK180) NB180_0.out (by simp)); replace HK := A_ (KeepBut.trans (w := w) q4_ hk (.inl rfl)); replace HB := A_ (hb); replace HI0 := A_ (hi); (try clear hb); (try clear hb2); (try clear hk); (try clear hi)) | ((with_reducible refine gate_builtin (b := .append) (xs := #[.tmp 18, .tmp 22]) rfl ?_); at_builtin; refine Kd.R_append (Kd.int .i64) w.heap.size rfl (.tmp 18) (.tmp 22) 27 3 (.int .i64 0) 8 rfl Try.underlying27 info3 rfl (by decide) (by omega) u3 x3_1 (wrap64 (t194 - 3)) [.int .i64 (wrap64 (t194 - 3))] (fun _ => True) (fun _ => False) rfl rfl ?aP (fun _ hk => hk.elim) ?aF ?aO (Below.refl _ _) ?aS ?aL ?_; (case aP => exact rfl); (case aF => exact (fun _ _ => trivial)); (case aO => exact (M.Lr HO_3)); (case aS => exact (keep_size (w := w) (g := g) (row := none) q4_)); (case aL => have := LMc18.out; omega); intro v198 w20 ho hb hg hat; rw [← Ny197.out] at ho; replace BK180 := A_ (blk_grown (g := gb180) (o := .cells #[.int .i64 0, .int .i64 0] 25 (0, 0)) (M.Lb BK180) hg (Kd.R_ne HO_3.out BK180.out (by decide))); replace HB := A_ (below_weaken q3_ HL.out hb); replace HI0 := A_ (IsS72.grown q6_ hg (IsS72.own_ne HI0.out HO_3.out (by decide))); replace HK := A_ (KeepBut.trans (w := w) q4_ (KeepBut.of_grown hg g) (Kd.R_base2 HO_3.out)); have HO199 := A_ (ho); clear HO_3; clear ho hb hg hat))
      go_roundg k1
      case measure => have := HK1.out; omega
      case rel => exact ⟨(y197), (wrap64 (x4_1 - 1)), (t195), (t196), q1_, H', ⟨by have := HK1.out; omega⟩, ⟨M.Lr HO199⟩, ⟨M.Lb BK180⟩, ⟨q6_⟩, ⟨q4_⟩, ⟨q3_⟩⟩
     ·rw [if_neg c18] at H
      exact absurd H (by simp)
    ·rw [if_neg c16] at H
     have c16b0 : decide (0 < x4_1) = false := decide_eq_false c16
     clear c16; replace H := Option.bind_eq_some_iff.mp H; obtain ⟨⟨t200, t201, t202⟩, A210, H⟩ := H; (try dsimp only at H); have A21 := A_ A210; clear A210; replace H := Option.bind_eq_some_iff.mp H; obtain ⟨⟨t203, t204, t205⟩, A220, H⟩ := H
     replace H : (some (t203, t204, t201, t202)) = some (r1, r2, r3, r4) := H
     have A22 := A_ A220; clear A220
     simp only [Option.some.injEq, Prod.mk.injEq] at H
     obtain ⟨rfl, rfl, rfl, rfl⟩ := H
     go_wp2_with (first | ((with_reducible refine gate_callee (f := 50) rfl ?_); refine goesL_ (some 27) rfl rfl Try.func50 kr_ rfl #[.pointer (some ⟨g, 0, none⟩), .int .i64 7] rfl q2_ ?_; (with_reducible refine (spec_l1Below.calls g s0_0 x1001_1 x1002_1 7 t200 t201 t202 w0 _ ?side1 ?side2 A21.out).mono ?_); (case side1 => exact q6_); (case side2 => exact q3_); rintro e w23 ⟨rfl, hi, hb, hk⟩; refine ⟨_, rfl, ?_⟩; replace HO_3 := A_ (Kd.R_mono (Kd.R_keep (IsS72.apart (show IsS72 w0 _ g s0_0 x1001_1 x1002_1 from q6_) (M.Lr HO_3) (by decide)) hk (fun _ h => h.2)) (fun _ h => h.1)); replace BK180 := A_ (KeepBut.blk hk (g' := gb180) (o := .cells #[.int .i64 0, .int .i64 0] 25 (0, 0)) (M.Lb BK180) NB180_0.out (by simp)); replace HK := A_ (KeepBut.trans (w := w) q4_ hk (.inl rfl)); replace HB := A_ (hb); replace HI0 := A_ (hi); (try clear hb); (try clear hb2); (try clear hk); (try clear hi); obtain ⟨Ao24, co24, eo24⟩ := Kd.R_slice HO_3.out; subst eo24) | ((with_reducible refine gate_callee (f := 18) rfl ?_); refine goesL_ (some 29) rfl rfl Try.func18 kr_ rfl #[.slice Ao24 x3_1.length co24, .int .i64 (wrap64 (t200 - 2))] rfl q2_ ?_; (with_reducible refine (spec_TableOfWeights.calls k1 _ _ x3_1 (wrap64 (t200 - 2)) t203 t204 t205 _ ?side1 ?side2 A22.out).mono ?_); (case side1 => repeat (first | exact (Kd.R_reads' HO_3.out).2.2 | (with_reducible refine Kd.C_alloc ?_ _) | (with_reducible refine Kd.C_drewN ?_ _) | (with_reducible refine Kd.C_drew ?_))); (case side2 => exact (Kd.R_reads' HO_3.out).2.1); rintro e w25 ⟨rfl, hb⟩; refine ⟨_, rfl, ?_⟩; replace HO_3 := A_ (Kd.R_below (M.Lr HO_3) hb); replace BK180 := A_ (blk_below (M.Lb BK180) hb); replace HK := A_ (KeepBut.trans (w := w) q4_ (KeepBut.of_below hb g none) (.inl rfl)); replace HB := A_ (below_step q3_ hb); replace HI0 := A_ (IsS72.below q6_ hb); (try clear hb); (try clear hb2); (try clear hk); (try clear hi)) | ((with_reducible refine gate_dst (N := 5) rfl ?_); refine box_event ?hg (N := 5) ?hd (cs := #[.int .i64 0, .int .i64 0]) (t := 25) ?hr ?_; (case hd => rfl); (case hg => rfl); (case hr => first | (go_simp; done) | (go_simp; rfl)); intro gb206 hg w26 hbox hb; replace HO_3 := A_ (Kd.R_below (M.Lr HO_3) hb); replace HB := A_ (below_step q3_ hb); have BK206 := A_ (hbox); have GW206 := A_ ((by rw [hg]; exact (keep_size (w := w) (g := g) (row := none) q4_) : w.heap.size ≤ gb206)); have GE206 := A_ ((Nat.le_trans HW0.out (by rw [hg]; exact (keep_size (w := w) (g := g) (row := none) q4_) : w.heap.size ≤ gb206) : w0.heap.size ≤ gb206)); replace HK := A_ (KeepBut.trans (w := w) q4_ (KeepBut.of_below hb g none) (.inl rfl)); have NB180_206 := A_ ((by rw [hg]; exact Nat.ne_of_lt (blk_lt (M.Lb BK180)) : gb180 ≠ gb206)); have NB206_180 := A_ ((by rw [hg]; exact Nat.ne_of_gt (blk_lt (M.Lb BK180)) : gb206 ≠ gb180)); replace BK180 := A_ (blk_below (M.Lb BK180) hb); have NB0_206 := A_ ((by rw [hg]; exact Nat.ne_of_lt (IsS72.lt (show IsS72 w0 _ g s0_0 t201 t202 from q6_)) : g ≠ gb206)); have NB206_0 := A_ ((by rw [hg]; exact Nat.ne_of_gt (IsS72.lt (show IsS72 w0 _ g s0_0 t201 t202 from q6_)) : gb206 ≠ g)); replace HI0 := A_ (IsS72.below q6_ hb); clear hb hbox hg; have hnb27 := NB206_180.out; have hnc27 := NB180_206.out; have hnb28 := NB206_0.out; have hnc28 := NB0_206.out; have hcz29_0 := c20_ BK206; have hcz29_1 := c21_ BK206; have hfz29_0 := blk_frozen BK206.out 0; have hfz29_1 := blk_frozen BK206.out 1; have hnb30 := NB180_0.out; have hnc30 := NB0_180.out; have hcz31_0 := c20_ BK180; have hcz31_1 := c21_ BK180; have hfz31_0 := blk_frozen BK180.out 0; have hfz31_1 := blk_frozen BK180.out 1))
     refine bodyPost_ret (results_cell_row rfl _ _ gb180 25 #[.int .i64 t203, .int .i64 t204] (0, 0) _ rfl (by (with_reducible repeat (first | refine blk_drewN ?_ _ | refine blk_drew ?_ | refine blk_alloc ?_ _)); refine blk_put (cs := #[.int .i64 t203, .int .i64 0]) ?_ 1 _ rfl; (with_reducible repeat (first | refine blk_drewN ?_ _ | refine blk_drew ?_ | refine blk_alloc ?_ _)); refine blk_put (cs := #[.int .i64 0, .int .i64 0]) ?_ 0 _ rfl; (with_reducible repeat (first | refine blk_drewN ?_ _ | refine blk_drew ?_ | refine blk_alloc ?_ _)); refine blk_far ?_ NB180_206.out _; (with_reducible repeat (first | refine blk_drewN ?_ _ | refine blk_drew ?_ | refine blk_alloc ?_ _)); refine blk_far ?_ NB180_206.out _; (with_reducible repeat (first | refine blk_drewN ?_ _ | refine blk_drew ?_ | refine blk_alloc ?_ _)); exact BK180.out) Try.underlying25 rfl kr_) rfl ?_
     exact ⟨q7_, q6_, q3_, q4_⟩
def spec_l1New.l0 : Nat → List Int → Int → Int → Option (List Int × Int × Int)
 | 0, _, _, _ => none
 | k + 1, x0, x3, x4 => if x4 < (x0.length : Int) then (if x4 < 4000 then (if 0 ≤ x4 then (spec_l1New.l0 k x0 (Go.bits .and .i64 (wrap64 ((wrap64 ((wrap64 (x3 * 131)) + (wrap64 (rd x0 x4)))) + 7)) 1073741823) (wrap64 (x4 + 1))) else (none)) else (some (x0, 0, x3))) else (some (x0, 0, x3))
def spec_l1New.f (k : Nat) (l0 : List Int) : Option (List Int × Int × Int) := spec_l1New.l0 k l0 (wrap64 (10101 + (l0.length : Int))) 0
theorem spec_l1New.calls (k : Nat) (A0 : Option Addr) (c0 : Nat) (l0 : List Int) (r1 : List Int) (r2 : Int) (r3 : Int) (w0 w : World) (hB : Below w0.heap.size w0 w) (hr0 : Kd.C (Kd.int .u8) w0 A0 l0.length l0) (hc0 : l0.length ≤ c0) (h : spec_l1New.f k l0 = some (r1, r2, r3)) :
  Calls Try.prog 29 #[.slice A0 l0.length c0] w fun e w' => ∃ g_ : Nat, e = .returned (.pointer (some ⟨g_, 0, none⟩)) ∧ IsS72 w0 w' g_ r1 r2 r3 ∧ Below w0.heap.size w0 w' ∧ Below w.heap.size w w' := by
 have hu72 := Try.underlying72
 have HR0 := A_ hr0; have HC0 := A_ hc0; clear hr0 hc0
 have HBW := A_ (Below.refl w.heap.size w)
 have HW0 := A_ hB.size
 have HB := A_ hB; clear hB
 have H : (spec_l1New.l0 k l0 (wrap64 (10101 + (l0.length : Int))) 0) = some (r1, r2, r3) := h
 clear h
 have H' := A_ H
 clear H
 go_enter Try.func29, Try.ntmps29
 go_wp2
 go_loopg [3, 4] k (fun kq v3 v4 w' => ∃ (x3_1 : Int) (x4_1 : Int), v3 = .int .i64 x3_1 ∧ v4 = .int .i64 x4_1 ∧ Aside0 (spec_l1New.l0 kq l0 x3_1 x4_1 = some (r1, r2, r3)) ∧ Aside0 (kq ≤ k) ∧ Aside0 (Below w0.heap.size w0 w') ∧ Aside0 (Below w.heap.size w w'))
 case atStart => exact ⟨(wrap64 (10101 + (l0.length : Int))), (0), q1_, q1_, H', ⟨Nat.le_refl _⟩, ⟨q0_⟩, ⟨q15_⟩⟩
 case round =>
  clear H'; obtain ⟨x3_1, x4_1, rfl, rfl, HA, HK1, HB, HBW2⟩ := hrel; clear HBW; have HBW := HBW2; clear HBW2
  cases gk with
  | zero => exact absurd HA.out (by simp [spec_l1New.l0])
  | succ k1 =>
   have H := HA.out
   clear HA
   simp only [spec_l1New.l0] at H
   by_cases c2 : x4_1 < (l0.length : Int)
   ·rw [if_pos c2] at H
    have c2b0 : decide (x4_1 < (l0.length : Int)) = true := decide_eq_true c2
    clear c2
    by_cases c3 : x4_1 < 4000
    ·rw [if_pos c3] at H
     have c3b0 : decide (x4_1 < 4000) = true := decide_eq_true c3
     clear c3
     by_cases c4 : 0 ≤ x4_1
     ·rw [if_pos c4] at H
      have c4b0 : decide (0 ≤ x4_1) = true := decide_eq_true c4
      clear c4
      have H' := A_ H
      clear H
      have p207 : 0 ≤ (x4_1 : Int) := of_decide_eq_true q5_
      have q207 : x4_1 < (l0.length : Int) := of_decide_eq_true q5_
      obtain ⟨ad207, e207, hx207_0⟩ := Kd.at_int HR0.out x4_1 p207 q207
      cases e207
      replace hx207_0 := pw_cell_below HB.out hx207_0
      replace p207 := eq_true p207
      replace q207 := eq_true q207
      go_wp2
      go_roundg k1
      case measure => have := HK1.out; omega
      case rel => exact ⟨(Go.bits .and .i64 (wrap64 ((wrap64 ((wrap64 (x3_1 * 131)) + (wrap64 (rd l0 x4_1)))) + 7)) 1073741823), (wrap64 (x4_1 + 1)), q1_, q1_, H', ⟨by have := HK1.out; omega⟩, ⟨q0_⟩, ⟨q15_⟩⟩
     ·rw [if_neg c4] at H
      exact absurd H (by simp)
    ·rw [if_neg c3] at H
     have c3b0 : decide (x4_1 < 4000) = false := decide_eq_false c3
     clear c3
     simp only [Option.some.injEq, Prod.mk.injEq] at H
     obtain ⟨rfl, rfl, rfl⟩ := H
     go_wp2_with (first | ((with_reducible refine gate_dst (N := 31) rfl ?_); refine box_event ?hg (N := 31) ?hd (cs := #[.slice A0 l0.length c0, .int .i64 0, .int .i64 x3_1]) (t := 72) ?hr ?_; (case hd => rfl); (case hg => rfl); (case hr => first | (go_simp; done) | (go_simp; rfl)); intro gb208 hg w5 hbox hb; replace HB := A_ (below_step q0_ hb); have BK208 := A_ (hbox); have GW208 := A_ ((by rw [hg]; exact (below_size q15_) : w.heap.size ≤ gb208)); have GE208 := A_ ((Nat.le_trans HW0.out (by rw [hg]; exact (below_size q15_) : w.heap.size ≤ gb208) : w0.heap.size ≤ gb208)); replace HBW := A_ (below_step HBW.out hb); clear hb hbox hg))
     go_ret
     exact ⟨_, rfl, (show IsS72 w0 _ gb208 l0 0 x3_1 from ⟨_, _, by (with_reducible repeat (first | refine blk_drewN ?_ _ | refine blk_drew ?_ | refine blk_alloc ?_ _)); exact BK208.out, GE208.out, HR0.out⟩), q0_, by repeat (first | (with_reducible first | exact HBW.out | apply below_alloc | apply pw_below_drewN | apply below_drew1 | refine below_set ?_ GW208.out) | exact HBW.out)⟩
   ·rw [if_neg c2] at H
    have c2b0 : decide (x4_1 < (l0.length : Int)) = false := decide_eq_false c2
    clear c2
    simp only [Option.some.injEq, Prod.mk.injEq] at H
    obtain ⟨rfl, rfl, rfl⟩ := H
    go_wp2_with (first | ((with_reducible refine gate_dst (N := 31) rfl ?_); refine box_event ?hg (N := 31) ?hd (cs := #[.slice A0 l0.length c0, .int .i64 0, .int .i64 x3_1]) (t := 72) ?hr ?_; (case hd => rfl); (case hg => rfl); (case hr => first | (go_simp; done) | (go_simp; rfl)); intro gb209 hg w6 hbox hb; replace HB := A_ (below_step q0_ hb); have BK209 := A_ (hbox); have GW209 := A_ ((by rw [hg]; exact (below_size q15_) : w.heap.size ≤ gb209)); have GE209 := A_ ((Nat.le_trans HW0.out (by rw [hg]; exact (below_size q15_) : w.heap.size ≤ gb209) : w0.heap.size ≤ gb209)); replace HBW := A_ (below_step HBW.out hb); clear hb hbox hg))
    go_ret
    exact ⟨_, rfl, (show IsS72 w0 _ gb209 l0 0 x3_1 from ⟨_, _, by (with_reducible repeat (first | refine blk_drewN ?_ _ | refine blk_drew ?_ | refine blk_alloc ?_ _)); exact BK209.out, GE209.out, HR0.out⟩), q0_, by repeat (first | (with_reducible first | exact HBW.out | apply below_alloc | apply pw_below_drewN | apply below_drew1 | refine below_set ?_ GW209.out) | exact HBW.out)⟩
def spec_DrawWeightsFor.f (k : Nat) (l0 : List Int) : Option (Int × Int) := (spec_l1New.f k l0).bind fun bt211 => ((spec_l16Draw.f k bt211.1 bt211.2.1 bt211.2.2).bind fun bt215 => (some (bt215.1, bt215.2.1)))
theorem spec_DrawWeightsFor.calls (k : Nat) (A0 : Option Addr) (c0 : Nat) (l0 : List Int) (r1 : Int) (r2 : Int) (w : World) (hr0 : Kd.C (Kd.int .u8) w A0 l0.length l0) (hc0 : l0.length ≤ c0) (h : spec_DrawWeightsFor.f k l0 = some (r1, r2)) :
  Calls Try.prog 5 #[.slice A0 l0.length c0] w fun e w' => e = .returned (.agg #[.int .i64 r1, .int .i64 r2]) ∧ Below w.heap.size w w' := by
 have hu25 := Try.underlying25
 have HR0 := A_ hr0; have HC0 := A_ hc0; clear hr0 hc0
 have HB := A_ (Below.refl w.heap.size w)
 have H : ((spec_l1New.f k l0).bind fun bt211 => ((spec_l16Draw.f k bt211.1 bt211.2.1 bt211.2.2).bind fun bt215 => (some (bt215.1, bt215.2.1)))) = some (r1, r2) := h
 clear h; replace H := Option.bind_eq_some_iff.mp H; obtain ⟨⟨t211, t212, t213⟩, A20, H⟩ := H
 replace H : ((spec_l16Draw.f k t211 t212 t213).bind fun bt215 => (some (bt215.1, bt215.2.1))) = some (r1, r2) := H
 have A2 := A_ A20; clear A20; replace H := Option.bind_eq_some_iff.mp H; obtain ⟨⟨t215, t216, t217, t218⟩, A30, H⟩ := H
 replace H : (some (t215, t216)) = some (r1, r2) := H
 have A3 := A_ A30; clear A30
 simp only [Option.some.injEq, Prod.mk.injEq] at H
 obtain ⟨rfl, rfl⟩ := H
 go_enter Try.func5, Try.ntmps5
 go_wp2_with (first | ((with_reducible refine gate_dst (N := 2) rfl ?_); refine box_event ?hg (N := 2) ?hd (cs := #[.int .i64 0, .int .i64 0]) (t := 25) ?hr ?_; (case hd => rfl); (case hg => rfl); (case hr => first | (go_simp; done) | (go_simp; rfl)); intro gb210 hg w4 hbox hb; have BK210 := A_ (hbox); have GW210 := A_ ((by rw [hg]; exact (below_size q0_) : w.heap.size ≤ gb210)); have GE210 := A_ ((by rw [hg]; exact (below_size q0_) : w.heap.size ≤ gb210)); replace HB := A_ (below_step q0_ hb); clear hb hbox hg) | ((with_reducible refine gate_callee (f := 29) rfl ?_); refine goesL_ (some 4) rfl rfl Try.func29 kr_ rfl #[.slice A0 l0.length c0] rfl q2_ ?_; (with_reducible refine (spec_l1New.calls k _ _ l0 t211 t212 t213 w _ ?side1 ?side2 ?side3 A2.out).mono ?_); (case side1 => exact q0_); (case side2 => exact HR0.out); (case side3 => exact HC0.out); rintro e w5 ⟨g214, rfl, hi, hb, hb2⟩; refine ⟨_, rfl, ?_⟩; replace HB := A_ (hb); have HI214 := A_ (hi); have NB214_210 := A_ (IsS72.ne_blk hi (blk_below (M.Lb BK210) hb2) (by decide)); have NB210_214 := A_ (Ne.symm (IsS72.ne_blk hi (blk_below (M.Lb BK210) hb2) (by decide))); replace BK210 := A_ (blk_below (M.Lb BK210) hb2); (try clear hb); (try clear hb2); (try clear hk); (try clear hi)) | ((with_reducible refine gate_callee (f := 28) rfl ?_); refine goesL_ (some 5) rfl rfl Try.func28 kr_ rfl #[.pointer (some ⟨g214, 0, none⟩)] rfl q2_ ?_; (with_reducible refine (spec_l16Draw.calls k g214 t211 t212 t213 t215 t216 t217 t218 w _ ?side1 ?side2 A3.out).mono ?_); (case side1 => repeat (first | (with_reducible first | exact HI214.out | apply IsS72.alloc | apply IsS72.drewN | apply IsS72.drew | apply IsS72.set_1 | apply IsS72.set_2 | refine IsS72.far ?_ NB214_210.out _) | exact HI214.out)); (case side2 => exact q3_); rintro e w6 ⟨rfl, hi, hb, hk⟩; refine ⟨_, rfl, ?_⟩; replace BK210 := A_ (KeepBut.blk hk (g' := gb210) (o := .cells #[.int .i64 0, .int .i64 0] 25 (0, 0)) (M.Lb BK210) NB210_214.out (by simp)); replace HB := A_ (hb); replace HI214 := A_ (hi); (try clear hb); (try clear hb2); (try clear hk); (try clear hi); have hnb7 := NB210_214.out; have hnc7 := NB214_210.out; have hcz8_0 := c20_ BK210; have hcz8_1 := c21_ BK210; have hfz8_0 := blk_frozen BK210.out 0; have hfz8_1 := blk_frozen BK210.out 1))
 refine bodyPost_ret (results_cell_row rfl _ _ gb210 25 #[.int .i64 t215, .int .i64 t216] (0, 0) _ rfl (by (with_reducible repeat (first | refine blk_drewN ?_ _ | refine blk_drew ?_ | refine blk_alloc ?_ _)); refine blk_put (cs := #[.int .i64 t215, .int .i64 0]) ?_ 1 _ rfl; (with_reducible repeat (first | refine blk_drewN ?_ _ | refine blk_drew ?_ | refine blk_alloc ?_ _)); refine blk_put (cs := #[.int .i64 0, .int .i64 0]) ?_ 0 _ rfl; (with_reducible repeat (first | refine blk_drewN ?_ _ | refine blk_drew ?_ | refine blk_alloc ?_ _)); exact BK210.out) Try.underlying25 rfl kr_) rfl ?_
 exact ⟨q7_, q3_⟩
def impl_Table_size.f (a0_0 : Int) (a0_1 : Int) : Option (Int) := if 0 ≤ a0_0 then (some (shl .i64 1 a0_0)) else (none)
theorem impl_Table_size.calls (a0_0 : Int) (a0_1 : Int) (r : Int) (w : World) (h : impl_Table_size.f a0_0 a0_1 = some r) :
  Calls Try.prog 37 #[.agg #[.int .i64 a0_0, .int .i64 a0_1]] w fun e w' => e = .returned (.int .i64 r) ∧ Below w.heap.size w w' := by
 have hu25 := Try.underlying25
 have HB := A_ (Below.refl w.heap.size w)
 have H : (if 0 ≤ a0_0 then (some (shl .i64 1 a0_0)) else (none)) = some r := h
 clear h
 by_cases c2 : 0 ≤ a0_0
 ·rw [if_pos c2] at H
  have c2b0 := eq_true c2
  have c2b1 : decide (0 ≤ a0_0) = true := decide_eq_true c2
  clear c2
  obtain ⟨ji3, hji3⟩ : ∃ j_ : Int, (shl .i64 1 a0_0) = j_ := ⟨_, rfl⟩
  replace H : (some ji3) = some r := by first | (rw [hji3] at H; exact H) | (simp only [hji3] at H ⊢; exact H)
  have hji3_ : (IntKind.i64.wrap (1 * 2 ^ min a0_0.toNat 64)) = ji3 := hji3
  have hji3z : a0_0 ≤ 64 → (IntKind.i64.wrap (1 * 2 ^ a0_0.toNat)) = ji3 := shl_small hji3
  have hji3u : (IntKind.i64.wrap (2 ^ min a0_0.toNat 64)) = ji3 := by have h_ := hji3_; rw [Int.one_mul] at h_; exact h_
  have hji3v : a0_0 ≤ 64 → (IntKind.i64.wrap (2 ^ a0_0.toNat)) = ji3 := fun hle_ => by have h_ := hji3z hle_; rw [Int.one_mul] at h_; exact h_
  have hji3y : (wrap64 (1 * 2 ^ min a0_0.toNat 64)) = ji3 := (i64_w _).symm.trans hji3_
  have hji3x : a0_0 ≤ 64 → (wrap64 (1 * 2 ^ a0_0.toNat)) = ji3 := fun h_ => (i64_w _).symm.trans (hji3z h_)
  obtain rfl := Option.some.inj H
  go_enter Try.func37, Try.ntmps37
  go_wp2_with (first | ((with_reducible refine gate_dst (N := 1) rfl ?_); refine box_event ?hg (N := 1) ?hd (cs := #[.int .i64 a0_0, .int .i64 a0_1]) (t := 25) ?hr ?_; (case hd => rfl); (case hg => rfl); (case hr => first | (go_simp; done) | (go_simp; rfl)); intro gb219 hg w4 hbox hb; have BK219 := A_ (hbox); have GW219 := A_ ((by rw [hg]; exact (below_size q0_) : w.heap.size ≤ gb219)); have GE219 := A_ ((by rw [hg]; exact (below_size q0_) : w.heap.size ≤ gb219)); replace HB := A_ (below_step q0_ hb); clear hb hbox hg; have hcz5_0 := c20_ BK219; have hcz5_1 := c21_ BK219; have hfz5_0 := blk_frozen BK219.out 0; have hfz5_1 := blk_frozen BK219.out 1))
  go_ret
  exact ⟨by first | rfl | (simp [errW_none, errW_some] <;> rfl) | (simp only [← hji3]; first | rfl | (simp [errW_none, errW_some] <;> rfl)) | (simp [*, errW_none, errW_some] <;> rfl), q0_⟩
 ·rw [if_neg c2] at H
  exact absurd H (by simp)
def impl_isBits.f (a0 : Int) : Option (Bool) := if a0 ≥ 0 then (some (decide (a0 ≤ 5))) else (some false)
theorem impl_isBits.calls (a0 : Int) (r : Bool) (w : World) (h : impl_isBits.f a0 = some r) :
  Calls Try.prog 64 #[.int .i64 a0] w fun e w' => e = .returned (.bool r) ∧ Drawn0 w w' := by
 have H : (if a0 ≥ 0 then (some (decide (a0 ≤ 5))) else (some false)) = some r := h
 clear h
 by_cases c2 : a0 ≥ 0
 ·rw [if_pos c2] at H
  have c2b0 : decide (0 ≤ a0) = true := decide_eq_true c2
  clear c2
  obtain rfl := Option.some.inj H
  go_enter Try.func64, Try.ntmps64
  go_wp2
  go_ret
  exact ⟨q1_, q9_⟩
 ·rw [if_neg c2] at H
  have c2b0 : decide (0 ≤ a0) = false := decide_eq_false c2
  clear c2
  obtain rfl := Option.some.inj H
  go_enter Try.func64, Try.ntmps64
  go_wp2
  go_ret
  exact ⟨q1_, q9_⟩
def impl_IsTable.f (a0_0 : Int) (a0_1 : Int) : Option (Bool) := (impl_isBits.f a0_0).bind fun t221 => (if t221 = true then (if a0_1 ≥ 0 then ((impl_Table_size.f a0_0 a0_1).bind fun t222 => (if 0 ≤ t222 then (some ((shr .i64 a0_1 t222) == 0)) else (none))) else (some false)) else (some false))
def impl_IsTable.T1 : Bool × List (List Nat × List Nat) := (true, [([], []), ([0], [0]), ([1], [1]), ([2, 2], [2]), ([3], [3]), ([4, 3], [3, 4]), ([5, 3], [3, 5]), ([3, 6], [3, 6]), ([7, 3], [7]), ([8], [8]), ([9, 8], [8, 9]), ([8], [8]), ([11, 8, 8], [8, 11]), ([10, 12, 8], [8, 10, 12]), ([13, 8], [8, 13]), ([8, 14], [8, 14]), ([15, 12, 0, 1, 2, 3, 4, 5, 6, 7, 8, 9, 10, 11, 12, 13, 14, 15], [15])])
def impl_IsTable.B1 : List Nat := [0, 1, 3, 7, 15, 31, 63, 127, 255, 511, 1023, 511, 2559, 8191, 16383, 32767, 65535]
theorem impl_IsTable.tab1 : rtab .any (opsOf Try.f36 1) = impl_IsTable.T1 := by kernel_rfl
theorem impl_IsTable.bits1 : waitsOk impl_IsTable.T1.2 impl_IsTable.B1 = true := by kernel_rfl
theorem impl_IsTable.calls (a0_0 : Int) (a0_1 : Int) (r : Bool) (w : World) (h : impl_IsTable.f a0_0 a0_1 = some r) :
  Calls Try.prog 36 #[.agg #[.int .i64 a0_0, .int .i64 a0_1]] w fun e w' => e = .returned (.bool r) ∧ Below w.heap.size w w' := by
 have hu25 := Try.underlying25
 have HB := A_ (Below.refl w.heap.size w)
 have H : ((impl_isBits.f a0_0).bind fun t221 => (if t221 = true then (if a0_1 ≥ 0 then ((impl_Table_size.f a0_0 a0_1).bind fun t222 => (if 0 ≤ t222 then (some ((shr .i64 a0_1 t222) == 0)) else (none))) else (some false)) else (some false))) = some r := h
 clear h; replace H := Option.bind_eq_some_iff.mp H; obtain ⟨t221, A20, H⟩ := H; (try dsimp only at H); have A2 := A_ A20; clear A20
 by_cases c3 : t221 = true
 ·subst c3
  have H1 : (if a0_1 ≥ 0 then ((impl_Table_size.f a0_0 a0_1).bind fun t222 => (if 0 ≤ t222 then (some ((shr .i64 a0_1 t222) == 0)) else (none))) else (some false)) = some r := by rw [if_pos rfl] at H; exact H
  clear H; have H := H1; clear H1
  by_cases c4 : a0_1 ≥ 0
  ·rw [if_pos c4] at H
   have c4b0 : decide (0 ≤ a0_1) = true := decide_eq_true c4
   clear c4; replace H := Option.bind_eq_some_iff.mp H; obtain ⟨t222, A50, H⟩ := H
   replace H : (if 0 ≤ t222 then (some ((shr .i64 a0_1 t222) == 0)) else (none)) = some r := H
   have A5 := A_ A50; clear A50
   by_cases c6 : 0 ≤ t222
   ·rw [if_pos c6] at H
    have c6b0 := eq_true c6
    have c6b1 : decide (0 ≤ t222) = true := decide_eq_true c6
    clear c6
    obtain ⟨ji7, hji7⟩ : ∃ j_ : Int, (shr .i64 a0_1 t222) = j_ := ⟨_, rfl⟩
    replace H : (some ((ji7) == 0)) = some r := by first | (rw [hji7] at H; exact H) | (simp only [hji7] at H ⊢; exact H)
    (try rw [hji7] at A2)
    (try rw [hji7] at A5)
    have hji7_ : (a0_1 / 2 ^ min t222.toNat 64) = ji7 := hji7
    have hji7z : t222 ≤ 64 → (a0_1 / 2 ^ t222.toNat) = ji7 := shr_small hji7
    obtain rfl := Option.some.inj H
    go_enter Try.func36, Try.ntmps36
    try go_wp2_with (first | ((with_reducible refine gate_dst (N := 1) rfl ?_); refine box_event ?hg (N := 1) ?hd (cs := #[.int .i64 a0_0, .int .i64 a0_1]) (t := 25) ?hr ?_; (case hd => rfl); (case hg => rfl); (case hr => first | (go_simp; done) | (go_simp; rfl)); intro gb220 hg w8 hbox hb; have BK220 := A_ (hbox); have GW220 := A_ ((by rw [hg]; exact (below_size q0_) : w.heap.size ≤ gb220)); have GE220 := A_ ((by rw [hg]; exact (below_size q0_) : w.heap.size ≤ gb220)); replace HB := A_ (below_step q0_ hb); clear hb hbox hg))
    have n0_ := A_ (blk_drew BK220.out)
    have n1_ := A_ (below_drew1 HB.out)
    clear BK220; clear HB; have BK220 := n0_; have HB := n1_; clear n0_ n1_
    refine start_ (n := 17) (S := fun w' => w'.cell? ⟨gb220, 0, none⟩ = some (.int .i64 a0_0) ∧ w'.cell? ⟨gb220, 1, none⟩ = some (.int .i64 a0_1)) (ds := []) #[false, false, false, false, false, false, false, false, false, false, false, false, false, false, false, false, false] kr_ rfl rfl ⟨(blk_cell BK220.out 0).trans rfl, (blk_cell BK220.out 1).trans rfl⟩ (fun hHeld => ?_); refine with_tabW impl_IsTable.tab1 impl_IsTable.bits1 (fun HT_ HW_ => ?_)
    generalize w8.drew = w9 at BK220 HB hHeld ⊢
    refine pure_ (i := 0) (N := some 3) (v := ?_) (a' := ?_) #[true, false, false, false, false, false, false, false, false, false, false, false, false, false, false, false, false] rfl rfl (any_of HT_.out kr_) (fun _ _ _ h => h) (Or.inl ⟨by rfl, ?_⟩) ?_ ?_; rotate_left
    ·intro w'; go_simp; with_reducible rfl
    rotate_left
    ·simp only [Act.put, sT_, s0_, s1_, i64_w, i32_w]; rfl
    refine take_ (i := 1) (N := some 4) (v := ?_) (a' := ?_) #[true, true, false, false, false, false, false, false, false, false, false, false, false, false, false, false, false] rfl rfl (take_ofW HT_.out HW_.out kr_) (fun _ _ _ h => h) (Or.inl ⟨by rfl, ?_⟩) hHeld ?_ ?_
    rotate_left
    ·rintro w' ⟨s0, s1⟩
     go_simp; with_reducible rfl
    rotate_left
    ·simp only [Act.put, sT_, s0_, s1_, i64_w, i32_w]; rfl
    refine one_ (i := 2) (N := some 5) #[true, true, true, false, false, false, false, false, false, false, false, false, false, false, false, false, false] rfl rfl (one_of HT_.out kr_) (by decide) (fun K hK => ?_)
    refine goes_ Try.func64 kr_ rfl #[.int .i64 a0_0] (by rfl) rfl rfl q2_ ?_
    with_reducible refine (impl_isBits.calls a0_0 true _ A2.out).mono ?_
    rintro e w' ⟨rfl, ⟨nd, rfl⟩⟩
    refine ⟨_, rfl, ?_⟩
    refine hK.out _ _ ⟨(blk_cell BK220.out 0).trans rfl, (blk_cell BK220.out 1).trans rfl⟩ (fun hHeld => ?_)
    clear hK K
    refine norm_ (a' := ?_) ?_ ?_
    rotate_left
    ·show Act.put _ (some 5) _ = _
     simp only [Act.put, sT_, s0_, s1_, i64_w, i32_w]; rfl
    refine pure_ (i := 3) (N := some 6) (v := ?_) (a' := ?_) #[true, true, true, true, false, false, false, false, false, false, false, false, false, false, false, false, false] rfl rfl (any_of HT_.out kr_) (fun _ _ _ h => h) (Or.inl ⟨by rfl, ?_⟩) ?_ ?_; rotate_left
    ·intro w'; go_simp; with_reducible rfl
    rotate_left
    ·simp only [Act.put, sT_, s0_, s1_, i64_w, i32_w]; rfl
    refine pure_ (i := 4) (N := some 7) (v := ?_) (a' := ?_) #[true, true, true, true, true, false, false, false, false, false, false, false, false, false, false, false, false] rfl rfl (any_of HT_.out kr_) (fun _ _ _ h => h) (Or.inl ⟨by rfl, ?_⟩) ?_ ?_; rotate_left
    ·intro w'; go_simp; with_reducible rfl
    rotate_left
    ·simp only [Act.put, sT_, s0_, s1_, i64_w, i32_w]; rfl
    refine take_ (i := 5) (N := some 8) (v := ?_) (a' := ?_) #[true, true, true, true, true, true, false, false, false, false, false, false, false, false, false, false, false] rfl rfl (take_ofW HT_.out HW_.out kr_) (fun _ _ _ h => h) (Or.inl ⟨by rfl, ?_⟩) hHeld ?_ ?_
    rotate_left
    ·rintro w' ⟨s0, s1⟩
     go_simp; with_reducible rfl
    rotate_left
    ·simp only [Act.put, sT_, s0_, s1_, i64_w, i32_w]; rfl
    refine pure_ (i := 6) (N := some 9) (v := ?_) (a' := ?_) #[true, true, true, true, true, true, true, false, false, false, false, false, false, false, false, false, false] rfl rfl (any_of HT_.out kr_) (fun _ _ _ h => h) (Or.inl ⟨by rfl, ?_⟩) ?_ ?_; rotate_left
    ·intro w'; go_simp; with_reducible rfl
    rotate_left
    ·simp only [Act.put, sT_, s0_, s1_, i64_w, i32_w]; rfl
    refine pure_ (i := 7) (N := some 10) (v := ?_) (a' := ?_) #[true, true, true, true, true, true, true, true, false, false, false, false, false, false, false, false, false] rfl rfl (any_of HT_.out kr_) (fun _ _ _ h => h) (Or.inl ⟨by rfl, ?_⟩) ?_ ?_; rotate_left
    ·intro w'; go_simp; with_reducible rfl
    rotate_left
    ·simp only [Act.put, sT_, s0_, s1_, i64_w, i32_w]; rfl
    refine pure_ (i := 8) (N := some 11) (v := ?_) (a' := ?_) #[true, true, true, true, true, true, true, true, true, false, false, false, false, false, false, false, false] rfl rfl (any_of HT_.out kr_) (fun _ _ _ h => h) (Or.inl ⟨by rfl, ?_⟩) ?_ ?_; rotate_left
    ·intro w'; go_simp; with_reducible rfl
    rotate_left
    ·simp only [Act.put, sT_, s0_, s1_, i64_w, i32_w]; rfl
    refine pure_ (i := 9) (N := some 12) (v := ?_) (a' := ?_) #[true, true, true, true, true, true, true, true, true, true, false, false, false, false, false, false, false] rfl rfl (any_of HT_.out kr_) (fun _ _ _ h => h) (Or.inl ⟨by rfl, ?_⟩) ?_ ?_; rotate_left
    ·intro w'; go_simp; with_reducible rfl
    rotate_left
    ·simp only [Act.put, sT_, s0_, s1_, i64_w, i32_w]; rfl
    refine take_ (i := 10) (N := some 13) (v := ?_) (a' := ?_) #[true, true, true, true, true, true, true, true, true, true, true, false, false, false, false, false, false] rfl rfl (take_ofW HT_.out HW_.out kr_) (fun _ _ _ h => h) (Or.inl ⟨by rfl, ?_⟩) hHeld ?_ ?_
    rotate_left
    ·rintro w' ⟨s0, s1⟩
     go_simp; with_reducible rfl
    rotate_left
    ·simp only [Act.put, sT_, s0_, s1_, i64_w, i32_w]; rfl
    refine take_ (i := 11) (N := some 14) (v := ?_) (a' := ?_) #[true, true, true, true, true, true, true, true, true, true, true, true, false, false, false, false, false] rfl rfl (take_ofW HT_.out HW_.out kr_) (fun _ _ _ h => h) (Or.inl ⟨by rfl, ?_⟩) hHeld ?_ ?_
    rotate_left
    ·rintro w' ⟨s0, s1⟩
     go_simp; with_reducible rfl
    rotate_left
    ·simp only [Act.put, sT_, s0_, s1_, i64_w, i32_w]; rfl
    refine one_ (i := 12) (N := some 15) #[true, true, true, true, true, true, true, true, true, true, true, true, true, false, false, false, false] rfl rfl (one_of HT_.out kr_) (by decide) (fun K hK => ?_)
    refine goes_ Try.func37 kr_ rfl #[.agg #[.int .i64 a0_0, .int .i64 a0_1]] (by rfl) rfl rfl q2_ ?_
    with_reducible refine (impl_Table_size.calls a0_0 a0_1 t222 _ A5.out).mono ?_
    rintro e w10 ⟨rfl, hb⟩
    refine ⟨_, rfl, ?_⟩
    have n0_ := A_ (blk_below (M.Lb BK220) hb)
    have n1_ := A_ (below_step q0_ hb)
    clear BK220; clear HB; have BK220 := n0_; have HB := n1_; clear n0_ n1_; (try clear hb); (try clear hb2); (try clear hk); (try clear hi)
    refine hK.out _ _ ⟨(blk_cell BK220.out 0).trans rfl, (blk_cell BK220.out 1).trans rfl⟩ (fun hHeld => ?_)
    clear hK K
    refine norm_ (a' := ?_) ?_ ?_
    rotate_left
    ·show Act.put _ (some 15) _ = _
     simp only [Act.put, sT_, s0_, s1_, i64_w, i32_w]; rfl
    refine pure_ (i := 13) (N := some 16) (v := ?_) (a' := ?_) #[true, true, true, true, true, true, true, true, true, true, true, true, true, true, false, false, false] rfl rfl (any_of HT_.out kr_) (fun _ _ _ h => h) (Or.inl ⟨by rfl, ?_⟩) ?_ ?_; rotate_left
    ·intro w'; go_simp; with_reducible rfl
    rotate_left
    ·simp only [Act.put, sT_, s0_, s1_, i64_w, i32_w]; rfl
    refine pure_ (i := 14) (N := some 17) (v := ?_) (a' := ?_) #[true, true, true, true, true, true, true, true, true, true, true, true, true, true, true, false, false] rfl rfl (any_of HT_.out kr_) (fun _ _ _ h => h) (Or.inl ⟨by rfl, ?_⟩) ?_ ?_; rotate_left
    ·intro w'; go_simp; with_reducible rfl
    rotate_left
    ·simp only [Act.put, sT_, s0_, s1_, i64_w, i32_w]; rfl
    refine pure_ (i := 15) (N := some 18) (v := ?_) (a' := ?_) #[true, true, true, true, true, true, true, true, true, true, true, true, true, true, true, true, false] rfl rfl (any_of HT_.out kr_) (fun _ _ _ h => h) (Or.inl ⟨by rfl, ?_⟩) ?_ ?_; rotate_left
    ·intro w'; go_simp; with_reducible rfl
    rotate_left
    ·simp only [Act.put, sT_, s0_, s1_, i64_w, i32_w]; rfl
    refine pure_ (i := 16) (N := some 2) (v := ?_) (a' := ?_) #[true, true, true, true, true, true, true, true, true, true, true, true, true, true, true, true, true] rfl rfl (any_of HT_.out kr_) (fun _ _ _ h => h) (Or.inl ⟨by rfl, ?_⟩) ?_ ?_; rotate_left
    ·intro w'; go_simp; with_reducible rfl
    rotate_left
    ·simp only [Act.put, sT_, s0_, s1_, i64_w, i32_w]; rfl
    refine done_ (done_of HT_.out kr_) ?_
    try go_wp2
    go_ret
    exact ⟨by first | rfl | (simp [errW_none, errW_some] <;> rfl) | (simp only [← hji7]; first | rfl | (simp [errW_none, errW_some] <;> rfl)) | (simp [*, errW_none, errW_some] <;> rfl), q0_⟩
   ·rw [if_neg c6] at H
    exact absurd H (by simp)
  ·rw [if_neg c4] at H
   have c4b0 : decide (0 ≤ a0_1) = false := decide_eq_false c4
   clear c4
   obtain rfl := Option.some.inj H
   go_enter Try.func36, Try.ntmps36
   try go_wp2_with (first | ((with_reducible refine gate_dst (N := 1) rfl ?_); refine box_event ?hg (N := 1) ?hd (cs := #[.int .i64 a0_0, .int .i64 a0_1]) (t := 25) ?hr ?_; (case hd => rfl); (case hg => rfl); (case hr => first | (go_simp; done) | (go_simp; rfl)); intro gb220 hg w11 hbox hb; have BK220 := A_ (hbox); have GW220 := A_ ((by rw [hg]; exact (below_size q0_) : w.heap.size ≤ gb220)); have GE220 := A_ ((by rw [hg]; exact (below_size q0_) : w.heap.size ≤ gb220)); replace HB := A_ (below_step q0_ hb); clear hb hbox hg))
   have n0_ := A_ (blk_drew BK220.out)
   have n1_ := A_ (below_drew1 HB.out)
   clear BK220; clear HB; have BK220 := n0_; have HB := n1_; clear n0_ n1_
   refine start_ (n := 17) (S := fun w' => w'.cell? ⟨gb220, 0, none⟩ = some (.int .i64 a0_0) ∧ w'.cell? ⟨gb220, 1, none⟩ = some (.int .i64 a0_1)) (ds := []) #[false, false, false, false, false, false, false, false, false, false, false, false, false, false, false, false, false] kr_ rfl rfl ⟨(blk_cell BK220.out 0).trans rfl, (blk_cell BK220.out 1).trans rfl⟩ (fun hHeld => ?_); refine with_tabW impl_IsTable.tab1 impl_IsTable.bits1 (fun HT_ HW_ => ?_)
   generalize w11.drew = w12 at BK220 HB hHeld ⊢
   refine pure_ (i := 0) (N := some 3) (v := ?_) (a' := ?_) #[true, false, false, false, false, false, false, false, false, false, false, false, false, false, false, false, false] rfl rfl (any_of HT_.out kr_) (fun _ _ _ h => h) (Or.inl ⟨by rfl, ?_⟩) ?_ ?_; rotate_left
   ·intro w'; go_simp; with_reducible rfl
   rotate_left
   ·simp only [Act.put, sT_, s0_, s1_, i64_w, i32_w]; rfl
   refine take_ (i := 1) (N := some 4) (v := ?_) (a' := ?_) #[true, true, false, false, false, false, false, false, false, false, false, false, false, false, false, false, false] rfl rfl (take_ofW HT_.out HW_.out kr_) (fun _ _ _ h => h) (Or.inl ⟨by rfl, ?_⟩) hHeld ?_ ?_
   rotate_left
   ·rintro w' ⟨s0, s1⟩
    go_simp; with_reducible rfl
   rotate_left
   ·simp only [Act.put, sT_, s0_, s1_, i64_w, i32_w]; rfl
   refine one_ (i := 2) (N := some 5) #[true, true, true, false, false, false, false, false, false, false, false, false, false, false, false, false, false] rfl rfl (one_of HT_.out kr_) (by decide) (fun K hK => ?_)
   refine goes_ Try.func64 kr_ rfl #[.int .i64 a0_0] (by rfl) rfl rfl q2_ ?_
   with_reducible refine (impl_isBits.calls a0_0 true _ A2.out).mono ?_
   rintro e w' ⟨rfl, ⟨nd, rfl⟩⟩
   refine ⟨_, rfl, ?_⟩
   refine hK.out _ _ ⟨(blk_cell BK220.out 0).trans rfl, (blk_cell BK220.out 1).trans rfl⟩ (fun hHeld => ?_)
   clear hK K
   refine norm_ (a' := ?_) ?_ ?_
   rotate_left
   ·show Act.put _ (some 5) _ = _
    simp only [Act.put, sT_, s0_, s1_, i64_w, i32_w]; rfl
   refine pure_ (i := 3) (N := some 6) (v := ?_) (a' := ?_) #[true, true, true, true, false, false, false, false, false, false, false, false, false, false, false, false, false] rfl rfl (any_of HT_.out kr_) (fun _ _ _ h => h) (Or.inl ⟨by rfl, ?_⟩) ?_ ?_; rotate_left
   ·intro w'; go_simp; with_reducible rfl
   rotate_left
   ·simp only [Act.put, sT_, s0_, s1_, i64_w, i32_w]; rfl
   refine pure_ (i := 4) (N := some 7) (v := ?_) (a' := ?_) #[true, true, true, true, true, false, false, false, false, false, false, false, false, false, false, false, false] rfl rfl (any_of HT_.out kr_) (fun _ _ _ h => h) (Or.inl ⟨by rfl, ?_⟩) ?_ ?_; rotate_left
   ·intro w'; go_simp; with_reducible rfl
   rotate_left
   ·simp only [Act.put, sT_, s0_, s1_, i64_w, i32_w]; rfl
   refine take_ (i := 5) (N := some 8) (v := ?_) (a' := ?_) #[true, true, true, true, true, true, false, false, false, false, false, false, false, false, false, false, false] rfl rfl (take_ofW HT_.out HW_.out kr_) (fun _ _ _ h => h) (Or.inl ⟨by rfl, ?_⟩) hHeld ?_ ?_
   rotate_left
   ·rintro w' ⟨s0, s1⟩
    go_simp; with_reducible rfl
   rotate_left
   ·simp only [Act.put, sT_, s0_, s1_, i64_w, i32_w]; rfl
   refine pure_ (i := 6) (N := some 9) (v := ?_) (a' := ?_) #[true, true, true, true, true, true, true, false, false, false, false, false, false, false, false, false, false] rfl rfl (any_of HT_.out kr_) (fun _ _ _ h => h) (Or.inl ⟨by rfl, ?_⟩) ?_ ?_; rotate_left
   ·intro w'; go_simp; with_reducible rfl
   rotate_left
   ·simp only [Act.put, sT_, s0_, s1_, i64_w, i32_w]; rfl
   refine pure_ (i := 7) (N := some 10) (v := ?_) (a' := ?_) #[true, true, true, true, true, true, true, true, false, false, false, false, false, false, false, false, false] rfl rfl (any_of HT_.out kr_) (fun _ _ _ h => h) (Or.inl ⟨by rfl, ?_⟩) ?_ ?_; rotate_left
   ·intro w'; go_simp; with_reducible rfl
   rotate_left
   ·simp only [Act.put, sT_, s0_, s1_, i64_w, i32_w]; rfl
   refine pure_ (i := 8) (N := some 11) (v := ?_) (a' := ?_) #[true, true, true, true, true, true, true, true, true, false, false, false, false, false, false, false, false] rfl rfl (any_of HT_.out kr_) (fun _ _ _ h => h) (Or.inl ⟨by rfl, ?_⟩) ?_ ?_; rotate_left
   ·intro w'; go_simp; with_reducible rfl
   rotate_left
   ·simp only [Act.put, sT_, s0_, s1_, i64_w, i32_w]; rfl
   refine pure_ (i := 9) (N := some 12) (v := undef) (a' := ?_) #[true, true, true, true, true, true, true, true, true, true, false, false, false, false, false, false, false] rfl rfl (any_of HT_.out kr_) (fun _ _ _ h => h) (Or.inr ⟨by rfl, rfl⟩) ?_ ?_; rotate_left
   ·simp only [Act.put, sT_, s0_, s1_, i64_w, i32_w]; rfl
   refine pure_ (i := 10) (N := some 13) (v := undef) (a' := ?_) #[true, true, true, true, true, true, true, true, true, true, true, false, false, false, false, false, false] rfl rfl (any_of HT_.out kr_) (fun _ _ _ h => h) (Or.inr ⟨by rfl, rfl⟩) ?_ ?_; rotate_left
   ·simp only [Act.put, sT_, s0_, s1_, i64_w, i32_w]; rfl
   refine pure_ (i := 11) (N := some 14) (v := undef) (a' := ?_) #[true, true, true, true, true, true, true, true, true, true, true, true, false, false, false, false, false] rfl rfl (any_of HT_.out kr_) (fun _ _ _ h => h) (Or.inr ⟨by rfl, rfl⟩) ?_ ?_; rotate_left
   ·simp only [Act.put, sT_, s0_, s1_, i64_w, i32_w]; rfl
   refine pure_ (i := 12) (N := some 15) (v := undef) (a' := ?_) #[true, true, true, true, true, true, true, true, true, true, true, true, true, false, false, false, false] rfl rfl (any_of HT_.out kr_) (fun _ _ _ h => h) (Or.inr ⟨by rfl, rfl⟩) ?_ ?_; rotate_left
   ·simp only [Act.put, sT_, s0_, s1_, i64_w, i32_w]; rfl
   refine pure_ (i := 13) (N := some 16) (v := undef) (a' := ?_) #[true, true, true, true, true, true, true, true, true, true, true, true, true, true, false, false, false] rfl rfl (any_of HT_.out kr_) (fun _ _ _ h => h) (Or.inr ⟨by rfl, rfl⟩) ?_ ?_; rotate_left
   ·simp only [Act.put, sT_, s0_, s1_, i64_w, i32_w]; rfl
   refine pure_ (i := 14) (N := some 17) (v := undef) (a' := ?_) #[true, true, true, true, true, true, true, true, true, true, true, true, true, true, true, false, false] rfl rfl (any_of HT_.out kr_) (fun _ _ _ h => h) (Or.inr ⟨by rfl, rfl⟩) ?_ ?_; rotate_left
   ·simp only [Act.put, sT_, s0_, s1_, i64_w, i32_w]; rfl
   refine pure_ (i := 15) (N := some 18) (v := ?_) (a' := ?_) #[true, true, true, true, true, true, true, true, true, true, true, true, true, true, true, true, false] rfl rfl (any_of HT_.out kr_) (fun _ _ _ h => h) (Or.inl ⟨by rfl, ?_⟩) ?_ ?_; rotate_left
   ·intro w'; go_simp; with_reducible rfl
   rotate_left
   ·simp only [Act.put, sT_, s0_, s1_, i64_w, i32_w]; rfl
   refine pure_ (i := 16) (N := some 2) (v := ?_) (a' := ?_) #[true, true, true, true, true, true, true, true, true, true, true, true, true, true, true, true, true] rfl rfl (any_of HT_.out kr_) (fun _ _ _ h => h) (Or.inl ⟨by rfl, ?_⟩) ?_ ?_; rotate_left
   ·intro w'; go_simp; with_reducible rfl
   rotate_left
   ·simp only [Act.put, sT_, s0_, s1_, i64_w, i32_w]; rfl
   refine done_ (done_of HT_.out kr_) ?_
   try go_wp2
   go_ret
   exact ⟨q7_, q0_⟩
 ·replace c3 := Bool.eq_false_iff.mpr c3
  subst c3
  have H1 : (some false) = some r := by rw [if_neg (show ¬ (false = true) by decide)] at H; exact H
  clear H; have H := H1; clear H1
  obtain rfl := Option.some.inj H
  go_enter Try.func36, Try.ntmps36
  try go_wp2_with (first | ((with_reducible refine gate_dst (N := 1) rfl ?_); refine box_event ?hg (N := 1) ?hd (cs := #[.int .i64 a0_0, .int .i64 a0_1]) (t := 25) ?hr ?_; (case hd => rfl); (case hg => rfl); (case hr => first | (go_simp; done) | (go_simp; rfl)); intro gb220 hg w13 hbox hb; have BK220 := A_ (hbox); have GW220 := A_ ((by rw [hg]; exact (below_size q0_) : w.heap.size ≤ gb220)); have GE220 := A_ ((by rw [hg]; exact (below_size q0_) : w.heap.size ≤ gb220)); replace HB := A_ (below_step q0_ hb); clear hb hbox hg))
  have n0_ := A_ (blk_drew BK220.out)
  have n1_ := A_ (below_drew1 HB.out)
  clear BK220; clear HB; have BK220 := n0_; have HB := n1_; clear n0_ n1_
  refine start_ (n := 17) (S := fun w' => w'.cell? ⟨gb220, 0, none⟩ = some (.int .i64 a0_0) ∧ w'.cell? ⟨gb220, 1, none⟩ = some (.int .i64 a0_1)) (ds := []) #[false, false, false, false, false, false, false, false, false, false, false, false, false, false, false, false, false] kr_ rfl rfl ⟨(blk_cell BK220.out 0).trans rfl, (blk_cell BK220.out 1).trans rfl⟩ (fun hHeld => ?_); refine with_tabW impl_IsTable.tab1 impl_IsTable.bits1 (fun HT_ HW_ => ?_)
  generalize w13.drew = w14 at BK220 HB hHeld ⊢
  refine pure_ (i := 0) (N := some 3) (v := ?_) (a' := ?_) #[true, false, false, false, false, false, false, false, false, false, false, false, false, false, false, false, false] rfl rfl (any_of HT_.out kr_) (fun _ _ _ h => h) (Or.inl ⟨by rfl, ?_⟩) ?_ ?_; rotate_left
  ·intro w'; go_simp; with_reducible rfl
  rotate_left
  ·simp only [Act.put, sT_, s0_, s1_, i64_w, i32_w]; rfl
  refine take_ (i := 1) (N := some 4) (v := ?_) (a' := ?_) #[true, true, false, false, false, false, false, false, false, false, false, false, false, false, false, false, false] rfl rfl (take_ofW HT_.out HW_.out kr_) (fun _ _ _ h => h) (Or.inl ⟨by rfl, ?_⟩) hHeld ?_ ?_
  rotate_left
  ·rintro w' ⟨s0, s1⟩
   go_simp; with_reducible rfl
  rotate_left
  ·simp only [Act.put, sT_, s0_, s1_, i64_w, i32_w]; rfl
  refine one_ (i := 2) (N := some 5) #[true, true, true, false, false, false, false, false, false, false, false, false, false, false, false, false, false] rfl rfl (one_of HT_.out kr_) (by decide) (fun K hK => ?_)
  refine goes_ Try.func64 kr_ rfl #[.int .i64 a0_0] (by rfl) rfl rfl q2_ ?_
  with_reducible refine (impl_isBits.calls a0_0 false _ A2.out).mono ?_
  rintro e w' ⟨rfl, ⟨nd, rfl⟩⟩
  refine ⟨_, rfl, ?_⟩
  refine hK.out _ _ ⟨(blk_cell BK220.out 0).trans rfl, (blk_cell BK220.out 1).trans rfl⟩ (fun hHeld => ?_)
  clear hK K
  refine norm_ (a' := ?_) ?_ ?_
  rotate_left
  ·show Act.put _ (some 5) _ = _
   simp only [Act.put, sT_, s0_, s1_, i64_w, i32_w]; rfl
  refine pure_ (i := 3) (N := some 6) (v := ?_) (a' := ?_) #[true, true, true, true, false, false, false, false, false, false, false, false, false, false, false, false, false] rfl rfl (any_of HT_.out kr_) (fun _ _ _ h => h) (Or.inl ⟨by rfl, ?_⟩) ?_ ?_; rotate_left
  ·intro w'; go_simp; with_reducible rfl
  rotate_left
  ·simp only [Act.put, sT_, s0_, s1_, i64_w, i32_w]; rfl
  refine pure_ (i := 4) (N := some 7) (v := undef) (a' := ?_) #[true, true, true, true, true, false, false, false, false, false, false, false, false, false, false, false, false] rfl rfl (any_of HT_.out kr_) (fun _ _ _ h => h) (Or.inr ⟨by rfl, rfl⟩) ?_ ?_; rotate_left
  ·simp only [Act.put, sT_, s0_, s1_, i64_w, i32_w]; rfl
  refine pure_ (i := 5) (N := some 8) (v := undef) (a' := ?_) #[true, true, true, true, true, true, false, false, false, false, false, false, false, false, false, false, false] rfl rfl (any_of HT_.out kr_) (fun _ _ _ h => h) (Or.inr ⟨by rfl, rfl⟩) ?_ ?_; rotate_left
  ·simp only [Act.put, sT_, s0_, s1_, i64_w, i32_w]; rfl
  refine pure_ (i := 6) (N := some 9) (v := undef) (a' := ?_) #[true, true, true, true, true, true, true, false, false, false, false, false, false, false, false, false, false] rfl rfl (any_of HT_.out kr_) (fun _ _ _ h => h) (Or.inr ⟨by rfl, rfl⟩) ?_ ?_; rotate_left
  ·simp only [Act.put, sT_, s0_, s1_, i64_w, i32_w]; rfl
  refine pure_ (i := 7) (N := some 10) (v := ?_) (a' := ?_) #[true, true, true, true, true, true, true, true, false, false, false, false, false, false, false, false, false] rfl rfl (any_of HT_.out kr_) (fun _ _ _ h => h) (Or.inl ⟨by rfl, ?_⟩) ?_ ?_; rotate_left
  ·intro w'; go_simp; with_reducible rfl
  rotate_left
  ·simp only [Act.put, sT_, s0_, s1_, i64_w, i32_w]; rfl
  refine pure_ (i := 8) (N := some 11) (v := ?_) (a' := ?_) #[true, true, true, true, true, true, true, true, true, false, false, false, false, false, false, false, false] rfl rfl (any_of HT_.out kr_) (fun _ _ _ h => h) (Or.inl ⟨by rfl, ?_⟩) ?_ ?_; rotate_left
  ·intro w'; go_simp; with_reducible rfl
  rotate_left
  ·simp only [Act.put, sT_, s0_, s1_, i64_w, i32_w]; rfl
  refine pure_ (i := 9) (N := some 12) (v := undef) (a' := ?_) #[true, true, true, true, true, true, true, true, true, true, false, false, false, false, false, false, false] rfl rfl (any_of HT_.out kr_) (fun _ _ _ h => h) (Or.inr ⟨by rfl, rfl⟩) ?_ ?_; rotate_left
  ·simp only [Act.put, sT_, s0_, s1_, i64_w, i32_w]; rfl
  refine pure_ (i := 10) (N := some 13) (v := undef) (a' := ?_) #[true, true, true, true, true, true, true, true, true, true, true, false, false, false, false, false, false] rfl rfl (any_of HT_.out kr_) (fun _ _ _ h => h) (Or.inr ⟨by rfl, rfl⟩) ?_ ?_; rotate_left
  ·simp only [Act.put, sT_, s0_, s1_, i64_w, i32_w]; rfl
  refine pure_ (i := 11) (N := some 14) (v := undef) (a' := ?_) #[true, true, true, true, true, true, true, true, true, true, true, true, false, false, false, false, false] rfl rfl (any_of HT_.out kr_) (fun _ _ _ h => h) (Or.inr ⟨by rfl, rfl⟩) ?_ ?_; rotate_left
  ·simp only [Act.put, sT_, s0_, s1_, i64_w, i32_w]; rfl
  refine pure_ (i := 12) (N := some 15) (v := undef) (a' := ?_) #[true, true, true, true, true, true, true, true, true, true, true, true, true, false, false, false, false] rfl rfl (any_of HT_.out kr_) (fun _ _ _ h => h) (Or.inr ⟨by rfl, rfl⟩) ?_ ?_; rotate_left
  ·simp only [Act.put, sT_, s0_, s1_, i64_w, i32_w]; rfl
  refine pure_ (i := 13) (N := some 16) (v := undef) (a' := ?_) #[true, true, true, true, true, true, true, true, true, true, true, true, true, true, false, false, false] rfl rfl (any_of HT_.out kr_) (fun _ _ _ h => h) (Or.inr ⟨by rfl, rfl⟩) ?_ ?_; rotate_left
  ·simp only [Act.put, sT_, s0_, s1_, i64_w, i32_w]; rfl
  refine pure_ (i := 14) (N := some 17) (v := undef) (a' := ?_) #[true, true, true, true, true, true, true, true, true, true, true, true, true, true, true, false, false] rfl rfl (any_of HT_.out kr_) (fun _ _ _ h => h) (Or.inr ⟨by rfl, rfl⟩) ?_ ?_; rotate_left
  ·simp only [Act.put, sT_, s0_, s1_, i64_w, i32_w]; rfl
  refine pure_ (i := 15) (N := some 18) (v := ?_) (a' := ?_) #[true, true, true, true, true, true, true, true, true, true, true, true, true, true, true, true, false] rfl rfl (any_of HT_.out kr_) (fun _ _ _ h => h) (Or.inl ⟨by rfl, ?_⟩) ?_ ?_; rotate_left
  ·intro w'; go_simp; with_reducible rfl
  rotate_left
  ·simp only [Act.put, sT_, s0_, s1_, i64_w, i32_w]; rfl
  refine pure_ (i := 16) (N := some 2) (v := ?_) (a' := ?_) #[true, true, true, true, true, true, true, true, true, true, true, true, true, true, true, true, true] rfl rfl (any_of HT_.out kr_) (fun _ _ _ h => h) (Or.inl ⟨by rfl, ?_⟩) ?_ ?_; rotate_left
  ·intro w'; go_simp; with_reducible rfl
  rotate_left
  ·simp only [Act.put, sT_, s0_, s1_, i64_w, i32_w]; rfl
  refine done_ (done_of HT_.out kr_) ?_
  try go_wp2
  go_ret
  exact ⟨q7_, q0_⟩
def impl_isSmall.f (a0_0 : Int) (a0_1 : Int) (a1 : Int) : Option (Bool) := (impl_IsTable.f a0_0 a0_1).bind fun t224 => (if t224 = true then (some (decide (a0_0 ≤ a1))) else (some false))
theorem impl_isSmall.calls (a0_0 : Int) (a0_1 : Int) (a1 : Int) (r : Bool) (w : World) (h : impl_isSmall.f a0_0 a0_1 a1 = some r) :
  Calls Try.prog 30 #[.agg #[.int .i64 a0_0, .int .i64 a0_1], .int .i64 a1] w fun e w' => e = .returned (.bool r) ∧ Below w.heap.size w w' := by
 have hu25 := Try.underlying25
 have HB := A_ (Below.refl w.heap.size w)
 have H : ((impl_IsTable.f a0_0 a0_1).bind fun t224 => (if t224 = true then (some (decide (a0_0 ≤ a1))) else (some false))) = some r := h
 clear h; replace H := Option.bind_eq_some_iff.mp H; obtain ⟨t224, A30, H⟩ := H
 replace H : (if t224 = true then (some (decide (a0_0 ≤ a1))) else (some false)) = some r := H
 have A3 := A_ A30; clear A30
 by_cases c4 : t224 = true
 ·subst c4
  have H1 : (some (decide (a0_0 ≤ a1))) = some r := by rw [if_pos rfl] at H; exact H
  clear H; have H := H1; clear H1
  obtain rfl := Option.some.inj H
  go_enter Try.func30, Try.ntmps30
  go_wp2_with (first | ((with_reducible refine gate_dst (N := 2) rfl ?_); refine box_event ?hg (N := 2) ?hd (cs := #[.int .i64 a0_0, .int .i64 a0_1]) (t := 25) ?hr ?_; (case hd => rfl); (case hg => rfl); (case hr => first | (go_simp; done) | (go_simp; rfl)); intro gb223 hg w5 hbox hb; have BK223 := A_ (hbox); have GW223 := A_ ((by rw [hg]; exact (below_size q0_) : w.heap.size ≤ gb223)); have GE223 := A_ ((by rw [hg]; exact (below_size q0_) : w.heap.size ≤ gb223)); replace HB := A_ (below_step q0_ hb); clear hb hbox hg; have hcz6_0 := c20_ BK223; have hcz6_1 := c21_ BK223; have hfz6_0 := blk_frozen BK223.out 0; have hfz6_1 := blk_frozen BK223.out 1) | ((with_reducible refine gate_callee (f := 36) rfl ?_); refine goesL_ (some 6) rfl rfl Try.func36 kr_ rfl #[.agg #[.int .i64 a0_0, .int .i64 a0_1]] rfl q2_ ?_; (with_reducible refine (impl_IsTable.calls a0_0 a0_1 true _ A3.out).mono ?_); rintro e w7 ⟨rfl, hb⟩; refine ⟨_, rfl, ?_⟩; replace BK223 := A_ (blk_below (M.Lb BK223) hb); replace HB := A_ (below_step q0_ hb); (try clear hb); (try clear hb2); (try clear hk); (try clear hi); have hcz8_0 := c20_ BK223; have hcz8_1 := c21_ BK223; have hfz8_0 := blk_frozen BK223.out 0; have hfz8_1 := blk_frozen BK223.out 1))
  go_ret
  exact ⟨q7_, q0_⟩
 ·replace c4 := Bool.eq_false_iff.mpr c4
  subst c4
  have H1 : (some false) = some r := by rw [if_neg (show ¬ (false = true) by decide)] at H; exact H
  clear H; have H := H1; clear H1
  obtain rfl := Option.some.inj H
  go_enter Try.func30, Try.ntmps30
  go_wp2_with (first | ((with_reducible refine gate_dst (N := 2) rfl ?_); refine box_event ?hg (N := 2) ?hd (cs := #[.int .i64 a0_0, .int .i64 a0_1]) (t := 25) ?hr ?_; (case hd => rfl); (case hg => rfl); (case hr => first | (go_simp; done) | (go_simp; rfl)); intro gb223 hg w9 hbox hb; have BK223 := A_ (hbox); have GW223 := A_ ((by rw [hg]; exact (below_size q0_) : w.heap.size ≤ gb223)); have GE223 := A_ ((by rw [hg]; exact (below_size q0_) : w.heap.size ≤ gb223)); replace HB := A_ (below_step q0_ hb); clear hb hbox hg; have hcz10_0 := c20_ BK223; have hcz10_1 := c21_ BK223; have hfz10_0 := blk_frozen BK223.out 0; have hfz10_1 := blk_frozen BK223.out 1) | ((with_reducible refine gate_callee (f := 36) rfl ?_); refine goesL_ (some 6) rfl rfl Try.func36 kr_ rfl #[.agg #[.int .i64 a0_0, .int .i64 a0_1]] rfl q2_ ?_; (with_reducible refine (impl_IsTable.calls a0_0 a0_1 false _ A3.out).mono ?_); rintro e w11 ⟨rfl, hb⟩; refine ⟨_, rfl, ?_⟩; replace BK223 := A_ (blk_below (M.Lb BK223) hb); replace HB := A_ (below_step q0_ hb); (try clear hb); (try clear hb2); (try clear hk); (try clear hi)))
  go_ret
  exact ⟨q7_, q0_⟩
def bits_Mul64.f (a0 : Int) (a1 : Int) : Option (Int × Int) := some (IntKind.u64.wrap ((IntKind.u64.wrap ((IntKind.u64.wrap ((a0 / 4294967296) * (a1 / 4294967296))) + ((IntKind.u64.wrap ((IntKind.u64.wrap ((a0 / 4294967296) * (Go.bits .and .u64 a1 4294967295))) + ((IntKind.u64.wrap ((Go.bits .and .u64 a0 4294967295) * (Go.bits .and .u64 a1 4294967295))) / 4294967296))) / 4294967296))) + ((IntKind.u64.wrap ((Go.bits .and .u64 (IntKind.u64.wrap ((IntKind.u64.wrap ((a0 / 4294967296) * (Go.bits .and .u64 a1 4294967295))) + ((IntKind.u64.wrap ((Go.bits .and .u64 a0 4294967295) * (Go.bits .and .u64 a1 4294967295))) / 4294967296))) 4294967295) + (IntKind.u64.wrap ((Go.bits .and .u64 a0 4294967295) * (a1 / 4294967296))))) / 4294967296)), IntKind.u64.wrap (a0 * a1))
theorem bits_Mul64.calls (a0 : Int) (a1 : Int) (r1 : Int) (r2 : Int) (w : World) (h : bits_Mul64.f a0 a1 = some (r1, r2)) :
  Calls Try.prog 76 #[.int .u64 a0, .int .u64 a1] w fun e w' => e = .returned (.tuple #[.int .u64 r1, .int .u64 r2]) ∧ Drawn0 w w' := by
 have H : (some (IntKind.u64.wrap ((IntKind.u64.wrap ((IntKind.u64.wrap ((a0 / 4294967296) * (a1 / 4294967296))) + ((IntKind.u64.wrap ((IntKind.u64.wrap ((a0 / 4294967296) * (Go.bits .and .u64 a1 4294967295))) + ((IntKind.u64.wrap ((Go.bits .and .u64 a0 4294967295) * (Go.bits .and .u64 a1 4294967295))) / 4294967296))) / 4294967296))) + ((IntKind.u64.wrap ((Go.bits .and .u64 (IntKind.u64.wrap ((IntKind.u64.wrap ((a0 / 4294967296) * (Go.bits .and .u64 a1 4294967295))) + ((IntKind.u64.wrap ((Go.bits .and .u64 a0 4294967295) * (Go.bits .and .u64 a1 4294967295))) / 4294967296))) 4294967295) + (IntKind.u64.wrap ((Go.bits .and .u64 a0 4294967295) * (a1 / 4294967296))))) / 4294967296)), IntKind.u64.wrap (a0 * a1))) = some (r1, r2) := h
 clear h
 simp only [Option.some.injEq, Prod.mk.injEq] at H
 obtain ⟨rfl, rfl⟩ := H
 go_enter Try.func76, Try.ntmps76
 go_wp2
 go_ret2
 exact ⟨q1_, q9_⟩
def bits_Mul.f (a0 : Int) (a1 : Int) : Option (Int × Int) := (bits_Mul64.f a0 a1).bind fun bt225 => (some (bt225.1, bt225.2))
theorem bits_Mul.calls (a0 : Int) (a1 : Int) (r1 : Int) (r2 : Int) (w : World) (h : bits_Mul.f a0 a1 = some (r1, r2)) :
  Calls Try.prog 62 #[.int .u64 a0, .int .u64 a1] w fun e w' => e = .returned (.tuple #[.int .u64 r1, .int .u64 r2]) ∧ Drawn0 w w' := by
 have H : ((bits_Mul64.f a0 a1).bind fun bt225 => (some (bt225.1, bt225.2))) = some (r1, r2) := h
 clear h; replace H := Option.bind_eq_some_iff.mp H; obtain ⟨⟨t225, t226⟩, A30, H⟩ := H
 replace H : (some (t225, t226)) = some (r1, r2) := H
 have A3 := A_ A30; clear A30
 simp only [Option.some.injEq, Prod.mk.injEq] at H
 obtain ⟨rfl, rfl⟩ := H
 go_enter Try.func62, Try.ntmps62
 go_wp2_with (first | ((with_reducible refine gate_callee (f := 76) rfl ?_); refine goesL_ (some 25) rfl rfl Try.func76 kr_ rfl #[.int .u64 a0, .int .u64 a1] rfl q2_ ?_; (with_reducible refine (bits_Mul64.calls a0 a1 t225 t226 _ A3.out).mono ?_); rintro e w' ⟨rfl, ⟨nd, rfl⟩⟩; refine ⟨_, rfl, ?_⟩))
 go_ret2
 exact ⟨q1_, q9_⟩
end Go.Proofs.Ytloekoepknfodaa.Print
namespace Go.Proofs.Ytloekoepknfodaa.Print
open Go.RowKit Go.Proofs.YtloekoepknfodaaW.PrintWords Go.Proofs.YtloekoepknfodaaW.PrintLast Go.Proofs.YtloekoepknfodaaW.PrintMore
attribute [local go_sem] max2_int min2_int max_two min_two max_three min_three max_four min_four   -- for this text's walks alone
set_option linter.unusedVariables false
set_option linter.unusedSimpArgs false
set_option maxHeartbeats 8000000
set_option maxRecDepth 100000
def impl_Table_at.f (a0_0 : Int) (a0_1 : Int) (a1 : Int) : Option (Int) := if 0 ≤ a1 then (some (Go.bits .and .i64 (shr .i64 a0_1 a1) 1)) else (none)
theorem impl_Table_at.calls (a0_0 : Int) (a0_1 : Int) (a1 : Int) (r : Int) (w : World) (h : impl_Table_at.f a0_0 a0_1 a1 = some r) :
  Calls Try.prog 38 #[.agg #[.int .i64 a0_0, .int .i64 a0_1], .int .i64 a1] w fun e w' => e = .returned (.int .i64 r) ∧ Below w.heap.size w w' := by
 have hu25 := Try.underlying25
 have HB := A_ (Below.refl w.heap.size w)
 have H : (if 0 ≤ a1 then (some (Go.bits .and .i64 (shr .i64 a0_1 a1) 1)) else (none)) = some r := h
 clear h
 by_cases c3 : 0 ≤ a1
 ·rw [if_pos c3] at H
  have c3b0 := eq_true c3
  have c3b1 : decide (0 ≤ a1) = true := decide_eq_true c3
  clear c3
  obtain ⟨ji4, hji4⟩ : ∃ j_ : Int, (shr .i64 a0_1 a1) = j_ := ⟨_, rfl⟩
  replace H : (some (Go.bits .and .i64 (ji4) 1)) = some r := by first | (rw [hji4] at H; exact H) | (simp only [hji4] at H ⊢; exact H)
  have hji4_ : (a0_1 / 2 ^ min a1.toNat 64) = ji4 := hji4
  have hji4z : a1 ≤ 64 → (a0_1 / 2 ^ a1.toNat) = ji4 := shr_small hji4
  obtain rfl := Option.some.inj H
  go_enter Try.func38, Try.ntmps38
  go_wp2_with (first | ((with_reducible refine gate_dst (N := 2) rfl ?_); refine box_event ?hg (N := 2) ?hd (cs := #[.int .i64 a0_0, .int .i64 a0_1]) (t := 25) ?hr ?_; (case hd => rfl); (case hg => rfl); (case hr => first | (go_simp; done) | (go_simp; rfl)); intro gb227 hg w5 hbox hb; have BK227 := A_ (hbox); have GW227 := A_ ((by rw [hg]; exact (below_size q0_) : w.heap.size ≤ gb227)); have GE227 := A_ ((by rw [hg]; exact (below_size q0_) : w.heap.size ≤ gb227)); replace HB := A_ (below_step q0_ hb); clear hb hbox hg; have hcz6_0 := c20_ BK227; have hcz6_1 := c21_ BK227; have hfz6_0 := blk_frozen BK227.out 0; have hfz6_1 := blk_frozen BK227.out 1))
  go_ret
  exact ⟨by first | rfl | (simp [errW_none, errW_some] <;> rfl) | (simp only [← hji4]; first | rfl | (simp [errW_none, errW_some] <;> rfl)) | (simp [*, errW_none, errW_some] <;> rfl), q0_⟩
 ·rw [if_neg c3] at H
  exact absurd H (by simp)
def impl_weightAt.l0 : Nat → Int → Int → List Int → Int → Int → Option (Int)
 | 0, _, _, _, _, _ => none
 | k + 1, x1, x5, x8, x9, x10 => if x10 < x9 then (if 0 ≤ x10 then (if x10 < (x8.length : Int) then (impl_weightAt.l0 k x1 (wrap64 (x5 + (wrap64 ((rd x8 x10) * (Go.bits .and .i64 (shr .i64 x1 x10) 1))))) x8 x9 (wrap64 (x10 + 1))) else (none)) else (none)) else (some x5)
def impl_weightAt.f (k : Nat) (l0 : List Int) (a1 : Int) : Option (Int) := impl_weightAt.l0 k a1 0 l0 (l0.length : Int) 0
theorem impl_weightAt.calls (k : Nat) (A0 : Option Addr) (c0 : Nat) (l0 : List Int) (a1 : Int) (r : Int) (w : World) (hr0 : Kd.C (Kd.int .i64) w A0 l0.length l0) (hc0 : l0.length ≤ c0) (h : impl_weightAt.f k l0 a1 = some r) :
  Calls Try.prog 44 #[.slice A0 l0.length c0, .int .i64 a1] w fun e w' => e = .returned (.int .i64 r) ∧ Drawn0 w w' := by
 have HR0 := A_ hr0; have HC0 := A_ hc0; clear hr0 hc0
 have H : (impl_weightAt.l0 k a1 0 l0 (l0.length : Int) 0) = some r := h
 clear h
 have H' := A_ H
 clear H
 go_enter Try.func44, Try.ntmps44
 go_wp2
 go_loopg [5, 10] k (fun kq v5 v10 w' => ∃ (x5_1 : Int) (x10_1 : Int), v5 = .int .i64 x5_1 ∧ v10 = .int .i64 x10_1 ∧ Aside0 (impl_weightAt.l0 kq a1 x5_1 l0 (l0.length : Int) x10_1 = some r) ∧ Aside0 (kq ≤ k) ∧ Drawn0 w w')
 case atStart => exact ⟨(0), (0), q1_, q1_, H', ⟨Nat.le_refl _⟩, q9_⟩
 case round =>
  clear H'; (try clear p2)
  obtain ⟨x5_1, x10_1, rfl, rfl, HA, HK1, ⟨m1, rfl⟩⟩ := hrel
  cases gk with
  | zero => exact absurd HA.out (by simp [impl_weightAt.l0])
  | succ k1 =>
   have H := HA.out
   clear HA
   simp only [impl_weightAt.l0] at H
   by_cases c3 : x10_1 < (l0.length : Int)
   ·rw [if_pos c3] at H
    have c3b0 : decide (x10_1 < (l0.length : Int)) = true := decide_eq_true c3
    clear c3
    by_cases c4 : 0 ≤ x10_1
    ·rw [if_pos c4] at H
     have c4b0 : decide (0 ≤ x10_1) = true := decide_eq_true c4
     clear c4
     by_cases c5 : x10_1 < (l0.length : Int)
     ·rw [if_pos c5] at H
      have c5b0 : decide (x10_1 < (l0.length : Int)) = true := decide_eq_true c5
      clear c5
      have c6b0 := eq_true (of_decide_eq_true q5_ : 0 ≤ x10_1)
      obtain ⟨ji7, hji7⟩ : ∃ j_ : Int, (shr .i64 a1 x10_1) = j_ := ⟨_, rfl⟩
      replace H : (impl_weightAt.l0 k1 a1 (wrap64 (x5_1 + (wrap64 ((rd l0 x10_1) * (Go.bits .and .i64 (ji7) 1))))) l0 (l0.length : Int) (wrap64 (x10_1 + 1))) = some r := by first | (rw [hji7] at H; exact H) | (simp only [hji7] at H ⊢; exact H)
      have hji7_ : (a1 / 2 ^ min x10_1.toNat 64) = ji7 := hji7
      have hji7z : x10_1 ≤ 64 → (a1 / 2 ^ x10_1.toNat) = ji7 := shr_small hji7
      have H' := A_ H
      clear H
      have p228 : 0 ≤ (x10_1 : Int) := of_decide_eq_true q5_
      have q228 : x10_1 < (l0.length : Int) := of_decide_eq_true q5_
      obtain ⟨ad228, e228, hx228_0⟩ := Kd.at_int HR0.out x10_1 p228 q228
      cases e228
      replace p228 := eq_true p228
      replace q228 := eq_true q228
      go_wp2
      go_roundg k1
      case measure => have := HK1.out; omega
      case rel => exact ⟨(wrap64 (x5_1 + (wrap64 ((rd l0 x10_1) * (Go.bits .and .i64 (ji7) 1))))), (wrap64 (x10_1 + 1)), (by first | rfl | (simp; done) | (simp only [← hji7] <;> (first | rfl | simp)) | (simp [*]; done)), q1_, H', ⟨by have := HK1.out; omega⟩, q9_⟩
     ·rw [if_neg c5] at H
      exact absurd H (by simp)
    ·rw [if_neg c4] at H
     exact absurd H (by simp)
   ·rw [if_neg c3] at H
    have c3b0 : decide (x10_1 < (l0.length : Int)) = false := decide_eq_false c3
    clear c3
    obtain rfl := Option.some.inj H
    go_wp2
    go_ret
    exact ⟨q1_, q9_⟩
mutual
def impl_Table_threshold.l0 : Nat → List Int → Int → Int → Bool → Bool → Int → Int → Int → Int → Option (Int × Bool)
 | 0, _, _, _, _, _, _, _, _, _ => none
 | k + 1, x1, x6, x7, x8, x9, x13, x14, x230000, x230001 => if x14 < x13 then ((impl_weightAt.f k x1 x14).bind fun t231 => ((impl_Table_at.f x230000 x230001 x14).bind fun t232 => (if t232 = 1 then (if x8 = true then (impl_Table_threshold.j1 k x1 x6 x7 x8 x9 x14 t231 x13 x14 (decide (t231 < x6)) x230000 x230001) else (impl_Table_threshold.j1 k x1 x6 x7 x8 x9 x14 t231 x13 x14 true x230000 x230001)) else (impl_Table_threshold.j1 k x1 x6 x7 x8 x9 x14 t231 x13 x14 false x230000 x230001)))) else (if x8 = true then (if x9 = true then (some (x6, true)) else (some (x6, decide (x7 < x6)))) else (some (wrap64 (x7 + 1), true)))
def impl_Table_threshold.j1 : Nat → List Int → Int → Int → Bool → Bool → Int → Int → Int → Int → Bool → Int → Int → Option (Int × Bool)
 | 0, _, _, _, _, _, _, _, _, _, _, _, _ => none
 | k + 1, x1, x6, x7, x8, x9, x10, x11, x13, x14, x32, x230000, x230001 => if x32 = true then ((impl_Table_at.f x230000 x230001 x10).bind fun t233 => (if t233 = 0 then (if x9 = true then (impl_Table_threshold.l0 k x1 x11 x11 true false x13 (wrap64 (x14 + 1)) x230000 x230001) else (if x11 > x7 then (impl_Table_threshold.l0 k x1 x11 x11 true false x13 (wrap64 (x14 + 1)) x230000 x230001) else (impl_Table_threshold.l0 k x1 x11 x7 true x9 x13 (wrap64 (x14 + 1)) x230000 x230001))) else (impl_Table_threshold.l0 k x1 x11 x7 true x9 x13 (wrap64 (x14 + 1)) x230000 x230001))) else ((impl_Table_at.f x230000 x230001 x10).bind fun t234 => (if t234 = 0 then (if x9 = true then (impl_Table_threshold.l0 k x1 x6 x11 x8 false x13 (wrap64 (x14 + 1)) x230000 x230001) else (if x11 > x7 then (impl_Table_threshold.l0 k x1 x6 x11 x8 false x13 (wrap64 (x14 + 1)) x230000 x230001) else (impl_Table_threshold.l0 k x1 x6 x7 x8 x9 x13 (wrap64 (x14 + 1)) x230000 x230001))) else (impl_Table_threshold.l0 k x1 x6 x7 x8 x9 x13 (wrap64 (x14 + 1)) x230000 x230001)))
end
def impl_Table_threshold.f (k : Nat) (a0_0 : Int) (a0_1 : Int) (l1 : List Int) : Option (Int × Bool) := (impl_Table_size.f a0_0 a0_1).bind fun t230 => (impl_Table_threshold.l0 k l1 0 0 false true t230 0 a0_0 a0_1)
theorem impl_Table_threshold.calls (k : Nat) (a0_0 : Int) (a0_1 : Int) (A1 : Option Addr) (c1 : Nat) (l1 : List Int) (r1 : Int) (r2 : Bool) (w : World) (hr1 : Kd.C (Kd.int .i64) w A1 l1.length l1) (hc1 : l1.length ≤ c1) (h : impl_Table_threshold.f k a0_0 a0_1 l1 = some (r1, r2)) :
  Calls Try.prog 32 #[.agg #[.int .i64 a0_0, .int .i64 a0_1], .slice A1 l1.length c1] w fun e w' => e = .returned (.tuple #[.int .i64 r1, .bool r2]) ∧ Below w.heap.size w w' := by
 have hu25 := Try.underlying25
 have HR1 := A_ hr1; have HC1 := A_ hc1; clear hr1 hc1
 have HB := A_ (Below.refl w.heap.size w)
 have H : ((impl_Table_size.f a0_0 a0_1).bind fun t230 => (impl_Table_threshold.l0 k l1 0 0 false true t230 0 a0_0 a0_1)) = some (r1, r2) := h
 clear h; replace H := Option.bind_eq_some_iff.mp H; obtain ⟨t230, A30, H⟩ := H
 replace H : (impl_Table_threshold.l0 k l1 0 0 false true t230 0 a0_0 a0_1) = some (r1, r2) := H
 have A3 := A_ A30; clear A30
 have H' := A_ H
 clear H
 go_enter Try.func32, Try.ntmps32
 go_wp2_with (first | ((with_reducible refine gate_dst (N := 2) rfl ?_); refine box_event ?hg (N := 2) ?hd (cs := #[.int .i64 a0_0, .int .i64 a0_1]) (t := 25) ?hr ?_; (case hd => rfl); (case hg => rfl); (case hr => first | (go_simp; done) | (go_simp; rfl)); intro gb229 hg w4 hbox hb; have BK229 := A_ (hbox); have GW229 := A_ ((by rw [hg]; exact (below_size q0_) : w.heap.size ≤ gb229)); have GE229 := A_ ((by rw [hg]; exact (below_size q0_) : w.heap.size ≤ gb229)); replace HB := A_ (below_step q0_ hb); clear hb hbox hg; have hcz5_0 := c20_ BK229; have hcz5_1 := c21_ BK229; have hfz5_0 := blk_frozen BK229.out 0; have hfz5_1 := blk_frozen BK229.out 1) | ((with_reducible refine gate_callee (f := 37) rfl ?_); refine goesL_ (some 13) rfl rfl Try.func37 kr_ rfl #[.agg #[.int .i64 a0_0, .int .i64 a0_1]] rfl q2_ ?_; (with_reducible refine (impl_Table_size.calls a0_0 a0_1 t230 _ A3.out).mono ?_); rintro e w6 ⟨rfl, hb⟩; refine ⟨_, rfl, ?_⟩; replace BK229 := A_ (blk_below (M.Lb BK229) hb); replace HB := A_ (below_step q0_ hb); (try clear hb); (try clear hb2); (try clear hk); (try clear hi)))
 go_loopg [6, 7, 8, 9, 14] k (fun kq v6 v7 v8 v9 v14 w' => ∃ (x6_1 : Int) (x7_1 : Int) (x8_1 : Bool) (x9_1 : Bool) (x14_1 : Int), v6 = .int .i64 x6_1 ∧ v7 = .int .i64 x7_1 ∧ v8 = .bool x8_1 ∧ v9 = .bool x9_1 ∧ v14 = .int .i64 x14_1 ∧ Aside0 (impl_Table_threshold.l0 kq l1 x6_1 x7_1 x8_1 x9_1 t230 x14_1 a0_0 a0_1 = some (r1, r2)) ∧ Aside0 (kq ≤ k) ∧ Aside0 (w'.heap[gb229]? = some (.cells #[.int .i64 a0_0, .int .i64 a0_1] 25 (0, 0))) ∧ Aside0 (Below w.heap.size w w'))
 case atStart => exact ⟨(0), (0), (false), (true), (0), q1_, q1_, q1_, q1_, q1_, H', ⟨Nat.le_refl _⟩, ⟨M.Lb BK229⟩, ⟨q0_⟩⟩
 case round =>
  clear H'; (try clear c1); (try clear p2); (try clear c3); (try clear hcz5_0); (try clear hcz5_1); (try clear hfz5_0); (try clear hfz5_1); obtain ⟨x6_1, x7_1, x8_1, x9_1, x14_1, rfl, rfl, rfl, rfl, rfl, HA, HK1, BK229, HB⟩ := hrel
  cases gk with
  | zero => exact absurd HA.out (by simp [impl_Table_threshold.l0])
  | succ k1 =>
   have H := HA.out
   clear HA
   simp only [impl_Table_threshold.l0] at H
   by_cases c7 : x14_1 < t230
   ·rw [if_pos c7] at H
    have c7b0 : decide (x14_1 < t230) = true := decide_eq_true c7
    clear c7; replace H := Option.bind_eq_some_iff.mp H; obtain ⟨t231, A80, H⟩ := H; (try dsimp only at H); have A8 := A_ A80; clear A80; have HC9 := A_ H; clear H
    go_upto_region 7 with (first | ((with_reducible refine gate_callee (f := 44) rfl ?_); refine goesL_ (some 19) rfl rfl Try.func44 kr_ rfl #[.slice A1 l1.length c1, .int .i64 x14_1] rfl q2_ ?_; (with_reducible refine (impl_weightAt.calls k1 _ _ l1 x14_1 t231 _ ?side1 ?side2 A8.out).mono ?_); (case side1 => exact q18_); (case side2 => exact HC1.out); rintro e w' ⟨rfl, ⟨nd, rfl⟩⟩; refine ⟨_, rfl, ?_⟩))
    (try simp only [Act.put, List.setIfInBounds_toArray, List.set_cons_zero, List.set_cons_succ])
    go_cut [32] (fun v32 wc => ∃ (kq : Nat) (x32_8 : Bool), v32 = .bool x32_8 ∧ Aside0 (impl_Table_threshold.j1 kq l1 x6_1 x7_1 x8_1 x9_1 x14_1 t231 t230 x14_1 x32_8 a0_0 a0_1 = some (r1, r2)) ∧ Aside0 (kq ≤ k1) ∧ Aside0 (wc.heap[gb229]? = some (.cells #[.int .i64 a0_0, .int .i64 a0_1] 25 (0, 0))) ∧ Aside0 (Below w.heap.size w wc))
    case first =>
     have H := HC9.out
     clear HC9; replace H := Option.bind_eq_some_iff.mp H; obtain ⟨t232, A100, H⟩ := H; (try dsimp only at H); have A10 := A_ A100; clear A100
     by_cases c11 : t232 = 1
     ·rw [if_pos c11] at H
      have c11b0 : (t232 == 1) = true := beq_iff_eq.mpr c11
      have c11b1 : (t232 != 1) = false := bne_eq_false_iff_eq.mpr c11
      clear c11
      (first | rw [c11b0] | (simp only [i64_w, i32_w]; rw [c11b0]) | skip)
      by_cases c12 : x8_1 = true
      ·subst c12
       have H1 : (impl_Table_threshold.j1 k1 l1 x6_1 x7_1 true x9_1 x14_1 t231 t230 x14_1 (decide (t231 < x6_1)) a0_0 a0_1) = some (r1, r2) := by rw [if_pos rfl] at H; exact H
       clear H; have H := H1; clear H1
       have H' := A_ H
       clear H
       have hcz13_0 := c20_ BK229
       have hcz13_1 := c21_ BK229
       have hfz13_0 := blk_frozen BK229.out 0
       have hfz13_1 := blk_frozen BK229.out 1
       go_wp2_with (first | ((with_reducible refine gate_callee (f := 38) rfl ?_); refine goesL_ (some 22) rfl rfl Try.func38 kr_ rfl #[.agg #[.int .i64 a0_0, .int .i64 a0_1], .int .i64 x14_1] rfl q2_ ?_; (with_reducible refine (impl_Table_at.calls a0_0 a0_1 x14_1 t232 _ A10.out).mono ?_); rintro e w14 ⟨rfl, hb⟩; refine ⟨_, rfl, ?_⟩; replace BK229 := A_ (blk_below (M.Lb BK229) hb); replace HB := A_ (below_step q0_ hb); (try clear hb); (try clear hb2); (try clear hk); (try clear hi)))
       go_meet
       case rel => exact ⟨_, (decide (t231 < x6_1)), q1_, H', ⟨by have := HK1.out; first | omega | exact Nat.le_refl _⟩, ⟨M.Lb BK229⟩, ⟨q0_⟩⟩
      ·replace c12 := Bool.eq_false_iff.mpr c12
       subst c12
       have H1 : (impl_Table_threshold.j1 k1 l1 x6_1 x7_1 false x9_1 x14_1 t231 t230 x14_1 true a0_0 a0_1) = some (r1, r2) := by rw [if_neg (show ¬ (false = true) by decide)] at H; exact H
       clear H; have H := H1; clear H1
       have H' := A_ H
       clear H
       have hcz15_0 := c20_ BK229
       have hcz15_1 := c21_ BK229
       have hfz15_0 := blk_frozen BK229.out 0
       have hfz15_1 := blk_frozen BK229.out 1
       go_wp2_with (first | ((with_reducible refine gate_callee (f := 38) rfl ?_); refine goesL_ (some 22) rfl rfl Try.func38 kr_ rfl #[.agg #[.int .i64 a0_0, .int .i64 a0_1], .int .i64 x14_1] rfl q2_ ?_; (with_reducible refine (impl_Table_at.calls a0_0 a0_1 x14_1 t232 _ A10.out).mono ?_); rintro e w16 ⟨rfl, hb⟩; refine ⟨_, rfl, ?_⟩; replace BK229 := A_ (blk_below (M.Lb BK229) hb); replace HB := A_ (below_step q0_ hb); (try clear hb); (try clear hb2); (try clear hk); (try clear hi)))
       go_meet
       case rel => exact ⟨_, (true), q1_, H', ⟨by have := HK1.out; first | omega | exact Nat.le_refl _⟩, ⟨M.Lb BK229⟩, ⟨q0_⟩⟩
     ·rw [if_neg c11] at H
      have c11b0 : (t232 == 1) = false := beq_eq_false_iff_ne.mpr c11
      have c11b1 : (t232 != 1) = true := bne_iff_ne.mpr c11
      (first | rw [c11b0] | (simp only [i64_w, i32_w]; rw [c11b0]) | skip)
      have H' := A_ H
      clear H
      have hcz17_0 := c20_ BK229
      have hcz17_1 := c21_ BK229
      have hfz17_0 := blk_frozen BK229.out 0
      have hfz17_1 := blk_frozen BK229.out 1
      go_wp2_with (first | ((with_reducible refine gate_callee (f := 38) rfl ?_); refine goesL_ (some 22) rfl rfl Try.func38 kr_ rfl #[.agg #[.int .i64 a0_0, .int .i64 a0_1], .int .i64 x14_1] rfl q2_ ?_; (with_reducible refine (impl_Table_at.calls a0_0 a0_1 x14_1 t232 _ A10.out).mono ?_); rintro e w18 ⟨rfl, hb⟩; refine ⟨_, rfl, ?_⟩; replace BK229 := A_ (blk_below (M.Lb BK229) hb); replace HB := A_ (below_step q0_ hb); (try clear hb); (try clear hb2); (try clear hk); (try clear hi)))
      go_meet
      case rel => exact ⟨_, (false), q1_, H', ⟨by have := HK1.out; first | omega | exact Nat.le_refl _⟩, ⟨M.Lb BK229⟩, ⟨q0_⟩⟩
    case rest =>
     clear HC9; (try clear c1); (try clear p2); (try clear c3); (try clear c4); (try clear c7); (try clear c7b0); (try clear c11); (try clear c11b0); (try clear c11b1); (try clear c12); (try clear hcz13_0); (try clear hcz13_1); (try clear hcz15_0); (try clear hcz15_1); (try clear hcz17_0); (try clear hcz17_1); (try clear hcz5_0); (try clear hcz5_1); (try clear hfz13_0); (try clear hfz13_1); (try clear hfz15_0); (try clear hfz15_1); (try clear hfz17_0); (try clear hfz17_1); (try clear hfz5_0); (try clear hfz5_1); (try clear p2); obtain ⟨kq, x32_8, rfl, HA, HJ8, BK229, HB⟩ := hcut
     cases kq with
     | zero => exact absurd HA.out (by simp [impl_Table_threshold.j1])
     | succ kj8 =>
      have H := HA.out
      clear HA
      simp only [impl_Table_threshold.j1] at H
      by_cases c19 : x32_8 = true
      ·subst c19
       have H1 : ((impl_Table_at.f a0_0 a0_1 x14_1).bind fun t233 => (if t233 = 0 then (if x9_1 = true then (impl_Table_threshold.l0 kj8 l1 t231 t231 true false t230 (wrap64 (x14_1 + 1)) a0_0 a0_1) else (if t231 > x7_1 then (impl_Table_threshold.l0 kj8 l1 t231 t231 true false t230 (wrap64 (x14_1 + 1)) a0_0 a0_1) else (impl_Table_threshold.l0 kj8 l1 t231 x7_1 true x9_1 t230 (wrap64 (x14_1 + 1)) a0_0 a0_1))) else (impl_Table_threshold.l0 kj8 l1 t231 x7_1 true x9_1 t230 (wrap64 (x14_1 + 1)) a0_0 a0_1))) = some (r1, r2) := by rw [if_pos rfl] at H; exact H
       clear H; have H := H1; clear H1; replace H := Option.bind_eq_some_iff.mp H; obtain ⟨t233, A200, H⟩ := H; (try dsimp only at H); have A20 := A_ A200; clear A200
       by_cases c21 : t233 = 0
       ·rw [if_pos c21] at H
        have c21b0 : (t233 == 0) = true := beq_iff_eq.mpr c21
        have c21b1 : (t233 != 0) = false := bne_eq_false_iff_eq.mpr c21
        clear c21
        by_cases c22 : x9_1 = true
        ·subst c22
         have H1 : (impl_Table_threshold.l0 kj8 l1 t231 t231 true false t230 (wrap64 (x14_1 + 1)) a0_0 a0_1) = some (r1, r2) := by rw [if_pos rfl] at H; exact H
         clear H; have H := H1; clear H1
         have H' := A_ H
         clear H
         have hcz23_0 := c20_ BK229
         have hcz23_1 := c21_ BK229
         have hfz23_0 := blk_frozen BK229.out 0
         have hfz23_1 := blk_frozen BK229.out 1
         go_wp2_with (first | ((with_reducible refine gate_callee (f := 38) rfl ?_); refine goesL_ (some 36) rfl rfl Try.func38 kr_ rfl #[.agg #[.int .i64 a0_0, .int .i64 a0_1], .int .i64 x14_1] rfl q2_ ?_; (with_reducible refine (impl_Table_at.calls a0_0 a0_1 x14_1 t233 _ A20.out).mono ?_); rintro e w24 ⟨rfl, hb⟩; refine ⟨_, rfl, ?_⟩; replace BK229 := A_ (blk_below (M.Lb BK229) hb); replace HB := A_ (below_step q0_ hb); (try clear hb); (try clear hb2); (try clear hk); (try clear hi)))
         go_roundg kj8
         case measure => have := HK1.out; have := HJ8.out; omega
         case rel => exact ⟨(t231), (t231), (true), (false), (wrap64 (x14_1 + 1)), q1_, q1_, q1_, q1_, q1_, H', ⟨by have := HK1.out; have := HJ8.out; omega⟩, ⟨M.Lb BK229⟩, ⟨q0_⟩⟩
        ·replace c22 := Bool.eq_false_iff.mpr c22
         subst c22
         have H1 : (if t231 > x7_1 then (impl_Table_threshold.l0 kj8 l1 t231 t231 true false t230 (wrap64 (x14_1 + 1)) a0_0 a0_1) else (impl_Table_threshold.l0 kj8 l1 t231 x7_1 true false t230 (wrap64 (x14_1 + 1)) a0_0 a0_1)) = some (r1, r2) := by rw [if_neg (show ¬ (false = true) by decide)] at H; exact H
         clear H; have H := H1; clear H1
         by_cases c25 : t231 > x7_1
         ·rw [if_pos c25] at H
          have c25b0 : decide (x7_1 < t231) = true := decide_eq_true c25
          clear c25
          have H' := A_ H
          clear H
          have hcz26_0 := c20_ BK229
          have hcz26_1 := c21_ BK229
          have hfz26_0 := blk_frozen BK229.out 0
          have hfz26_1 := blk_frozen BK229.out 1
          go_wp2_with (first | ((with_reducible refine gate_callee (f := 38) rfl ?_); refine goesL_ (some 36) rfl rfl Try.func38 kr_ rfl #[.agg #[.int .i64 a0_0, .int .i64 a0_1], .int .i64 x14_1] rfl q2_ ?_; (with_reducible refine (impl_Table_at.calls a0_0 a0_1 x14_1 t233 _ A20.out).mono ?_); rintro e w27 ⟨rfl, hb⟩; refine ⟨_, rfl, ?_⟩; replace BK229 := A_ (blk_below (M.Lb BK229) hb); replace HB := A_ (below_step q0_ hb); (try clear hb); (try clear hb2); (try clear hk); (try clear hi)))
          go_roundg kj8
          case measure => have := HK1.out; have := HJ8.out; omega
          case rel => exact ⟨(t231), (t231), (true), (false), (wrap64 (x14_1 + 1)), q1_, q1_, q1_, q1_, q1_, H', ⟨by have := HK1.out; have := HJ8.out; omega⟩, ⟨M.Lb BK229⟩, ⟨q0_⟩⟩
         ·rw [if_neg c25] at H
          have c25b0 : decide (x7_1 < t231) = false := decide_eq_false c25
          clear c25
          have H' := A_ H
          clear H
          have hcz28_0 := c20_ BK229
          have hcz28_1 := c21_ BK229
          have hfz28_0 := blk_frozen BK229.out 0
          have hfz28_1 := blk_frozen BK229.out 1
          go_wp2_with (first | ((with_reducible refine gate_callee (f := 38) rfl ?_); refine goesL_ (some 36) rfl rfl Try.func38 kr_ rfl #[.agg #[.int .i64 a0_0, .int .i64 a0_1], .int .i64 x14_1] rfl q2_ ?_; (with_reducible refine (impl_Table_at.calls a0_0 a0_1 x14_1 t233 _ A20.out).mono ?_); rintro e w29 ⟨rfl, hb⟩; refine ⟨_, rfl, ?_⟩; replace BK229 := A_ (blk_below (M.Lb BK229) hb); replace HB := A_ (below_step q0_ hb); (try clear hb); (try clear hb2); (try clear hk); (try clear hi)))
          go_roundg kj8
          case measure => have := HK1.out; have := HJ8.out; omega
          case rel => exact ⟨(t231), (x7_1), (true), (false), (wrap64 (x14_1 + 1)), q1_, q1_, q1_, q1_, q1_, H', ⟨by have := HK1.out; have := HJ8.out; omega⟩, ⟨M.Lb BK229⟩, ⟨q0_⟩⟩
       ·rw [if_neg c21] at H
        have c21b0 : (t233 == 0) = false := beq_eq_false_iff_ne.mpr c21
        have c21b1 : (t233 != 0) = true := bne_iff_ne.mpr c21
        have H' := A_ H
        clear H
        have hcz30_0 := c20_ BK229
        have hcz30_1 := c21_ BK229
        have hfz30_0 := blk_frozen BK229.out 0
        have hfz30_1 := blk_frozen BK229.out 1
        go_wp2_with (first | ((with_reducible refine gate_callee (f := 38) rfl ?_); refine goesL_ (some 36) rfl rfl Try.func38 kr_ rfl #[.agg #[.int .i64 a0_0, .int .i64 a0_1], .int .i64 x14_1] rfl q2_ ?_; (with_reducible refine (impl_Table_at.calls a0_0 a0_1 x14_1 t233 _ A20.out).mono ?_); rintro e w31 ⟨rfl, hb⟩; refine ⟨_, rfl, ?_⟩; replace BK229 := A_ (blk_below (M.Lb BK229) hb); replace HB := A_ (below_step q0_ hb); (try clear hb); (try clear hb2); (try clear hk); (try clear hi)))
        go_roundg kj8
        case measure => have := HK1.out; have := HJ8.out; omega
        case rel => exact ⟨(t231), (x7_1), (true), (x9_1), (wrap64 (x14_1 + 1)), q1_, q1_, q1_, q1_, q1_, H', ⟨by have := HK1.out; have := HJ8.out; omega⟩, ⟨M.Lb BK229⟩, ⟨q0_⟩⟩
      ·replace c19 := Bool.eq_false_iff.mpr c19
       subst c19
       have H1 : ((impl_Table_at.f a0_0 a0_1 x14_1).bind fun t234 => (if t234 = 0 then (if x9_1 = true then (impl_Table_threshold.l0 kj8 l1 x6_1 t231 x8_1 false t230 (wrap64 (x14_1 + 1)) a0_0 a0_1) else (if t231 > x7_1 then (impl_Table_threshold.l0 kj8 l1 x6_1 t231 x8_1 false t230 (wrap64 (x14_1 + 1)) a0_0 a0_1) else (impl_Table_threshold.l0 kj8 l1 x6_1 x7_1 x8_1 x9_1 t230 (wrap64 (x14_1 + 1)) a0_0 a0_1))) else (impl_Table_threshold.l0 kj8 l1 x6_1 x7_1 x8_1 x9_1 t230 (wrap64 (x14_1 + 1)) a0_0 a0_1))) = some (r1, r2) := by rw [if_neg (show ¬ (false = true) by decide)] at H; exact H
       clear H; have H := H1; clear H1; replace H := Option.bind_eq_some_iff.mp H; obtain ⟨t234, A320, H⟩ := H; (try dsimp only at H); have A32 := A_ A320; clear A320
       by_cases c33 : t234 = 0
       ·rw [if_pos c33] at H
        have c33b0 : (t234 == 0) = true := beq_iff_eq.mpr c33
        have c33b1 : (t234 != 0) = false := bne_eq_false_iff_eq.mpr c33
        clear c33
        by_cases c34 : x9_1 = true
        ·subst c34
         have H1 : (impl_Table_threshold.l0 kj8 l1 x6_1 t231 x8_1 false t230 (wrap64 (x14_1 + 1)) a0_0 a0_1) = some (r1, r2) := by rw [if_pos rfl] at H; exact H
         clear H; have H := H1; clear H1
         have H' := A_ H
         clear H
         have hcz35_0 := c20_ BK229
         have hcz35_1 := c21_ BK229
         have hfz35_0 := blk_frozen BK229.out 0
         have hfz35_1 := blk_frozen BK229.out 1
         go_wp2_with (first | ((with_reducible refine gate_callee (f := 38) rfl ?_); refine goesL_ (some 36) rfl rfl Try.func38 kr_ rfl #[.agg #[.int .i64 a0_0, .int .i64 a0_1], .int .i64 x14_1] rfl q2_ ?_; (with_reducible refine (impl_Table_at.calls a0_0 a0_1 x14_1 t234 _ A32.out).mono ?_); rintro e w36 ⟨rfl, hb⟩; refine ⟨_, rfl, ?_⟩; replace BK229 := A_ (blk_below (M.Lb BK229) hb); replace HB := A_ (below_step q0_ hb); (try clear hb); (try clear hb2); (try clear hk); (try clear hi)))
         go_roundg kj8
         case measure => have := HK1.out; have := HJ8.out; omega
         case rel => exact ⟨(x6_1), (t231), (x8_1), (false), (wrap64 (x14_1 + 1)), q1_, q1_, q1_, q1_, q1_, H', ⟨by have := HK1.out; have := HJ8.out; omega⟩, ⟨M.Lb BK229⟩, ⟨q0_⟩⟩
        ·replace c34 := Bool.eq_false_iff.mpr c34
         subst c34
         have H1 : (if t231 > x7_1 then (impl_Table_threshold.l0 kj8 l1 x6_1 t231 x8_1 false t230 (wrap64 (x14_1 + 1)) a0_0 a0_1) else (impl_Table_threshold.l0 kj8 l1 x6_1 x7_1 x8_1 false t230 (wrap64 (x14_1 + 1)) a0_0 a0_1)) = some (r1, r2) := by rw [if_neg (show ¬ (false = true) by decide)] at H; exact H
         clear H; have H := H1; clear H1
         by_cases c37 : t231 > x7_1
         ·rw [if_pos c37] at H
          have c37b0 : decide (x7_1 < t231) = true := decide_eq_true c37
          clear c37
          have H' := A_ H
          clear H
          have hcz38_0 := c20_ BK229
          have hcz38_1 := c21_ BK229
          have hfz38_0 := blk_frozen BK229.out 0
          have hfz38_1 := blk_frozen BK229.out 1
          go_wp2_with (first | ((with_reducible refine gate_callee (f := 38) rfl ?_); refine goesL_ (some 36) rfl rfl Try.func38 kr_ rfl #[.agg #[.int .i64 a0_0, .int .i64 a0_1], .int .i64 x14_1] rfl q2_ ?_; (with_reducible refine (impl_Table_at.calls a0_0 a0_1 x14_1 t234 _ A32.out).mono ?_); rintro e w39 ⟨rfl, hb⟩; refine ⟨_, rfl, ?_⟩; replace BK229 := A_ (blk_below (M.Lb BK229) hb); replace HB := A_ (below_step q0_ hb); (try clear hb); (try clear hb2); (try clear hk); (try clear hi)))
          go_roundg kj8
          case measure => have := HK1.out; have := HJ8.out; omega
          case rel => exact ⟨(x6_1), (t231), (x8_1), (false), (wrap64 (x14_1 + 1)), q1_, q1_, q1_, q1_, q1_, H', ⟨by have := HK1.out; have := HJ8.out; omega⟩, ⟨M.Lb BK229⟩, ⟨q0_⟩⟩
         ·rw [if_neg c37] at H
          have c37b0 : decide (x7_1 < t231) = false := decide_eq_false c37
          clear c37
          have H' := A_ H
          clear H
          have hcz40_0 := c20_ BK229
          have hcz40_1 := c21_ BK229
          have hfz40_0 := blk_frozen BK229.out 0
          have hfz40_1 := blk_frozen BK229.out 1
          go_wp2_with (first | ((with_reducible refine gate_callee (f := 38) rfl ?_); refine goesL_ (some 36) rfl rfl Try.func38 kr_ rfl #[.agg #[.int .i64 a0_0, .int .i64 a0_1], .int .i64 x14_1] rfl q2_ ?_; (with_reducible refine (impl_Table_at.calls a0_0 a0_1 x14_1 t234 _ A32.out).mono ?_); rintro e w41 ⟨rfl, hb⟩; refine ⟨_, rfl, ?_⟩; replace BK229 := A_ (blk_below (M.Lb BK229) hb); replace HB := A_ (below_step q0_ hb); (try clear hb); (try clear hb2); (try clear hk); (try clear hi)))
          go_roundg kj8
          case measure => have := HK1.out; have := HJ8.out; omega
          case rel => exact ⟨(x6_1), (x7_1), (x8_1), (false), (wrap64 (x14_1 + 1)), q1_, q1_, q1_, q1_, q1_, H', ⟨by have := HK1.out; have := HJ8.out; omega⟩, ⟨M.Lb BK229⟩, ⟨q0_⟩⟩
       ·rw [if_neg c33] at H
        have c33b0 : (t234 == 0) = false := beq_eq_false_iff_ne.mpr c33
        have c33b1 : (t234 != 0) = true := bne_iff_ne.mpr c33
        have H' := A_ H
        clear H
        have hcz42_0 := c20_ BK229
        have hcz42_1 := c21_ BK229
        have hfz42_0 := blk_frozen BK229.out 0
        have hfz42_1 := blk_frozen BK229.out 1
        go_wp2_with (first | ((with_reducible refine gate_callee (f := 38) rfl ?_); refine goesL_ (some 36) rfl rfl Try.func38 kr_ rfl #[.agg #[.int .i64 a0_0, .int .i64 a0_1], .int .i64 x14_1] rfl q2_ ?_; (with_reducible refine (impl_Table_at.calls a0_0 a0_1 x14_1 t234 _ A32.out).mono ?_); rintro e w43 ⟨rfl, hb⟩; refine ⟨_, rfl, ?_⟩; replace BK229 := A_ (blk_below (M.Lb BK229) hb); replace HB := A_ (below_step q0_ hb); (try clear hb); (try clear hb2); (try clear hk); (try clear hi)))
        go_roundg kj8
        case measure => have := HK1.out; have := HJ8.out; omega
        case rel => exact ⟨(x6_1), (x7_1), (x8_1), (x9_1), (wrap64 (x14_1 + 1)), q1_, q1_, q1_, q1_, q1_, H', ⟨by have := HK1.out; have := HJ8.out; omega⟩, ⟨M.Lb BK229⟩, ⟨q0_⟩⟩
   ·rw [if_neg c7] at H
    have c7b0 : decide (x14_1 < t230) = false := decide_eq_false c7
    clear c7
    by_cases c44 : x8_1 = true
    ·subst c44
     have H1 : (if x9_1 = true then (some (x6_1, true)) else (some (x6_1, decide (x7_1 < x6_1)))) = some (r1, r2) := by rw [if_pos rfl] at H; exact H
     clear H; have H := H1; clear H1
     by_cases c45 : x9_1 = true
     ·subst c45
      have H1 : (some (x6_1, true)) = some (r1, r2) := by rw [if_pos rfl] at H; exact H
      clear H; have H := H1; clear H1
      simp only [Option.some.injEq, Prod.mk.injEq] at H
      obtain ⟨rfl, rfl⟩ := H
      go_wp2
      go_ret2
      exact ⟨q7_, q0_⟩
     ·replace c45 := Bool.eq_false_iff.mpr c45
      subst c45
      have H1 : (some (x6_1, decide (x7_1 < x6_1))) = some (r1, r2) := by rw [if_neg (show ¬ (false = true) by decide)] at H; exact H
      clear H; have H := H1; clear H1
      simp only [Option.some.injEq, Prod.mk.injEq] at H
      obtain ⟨rfl, rfl⟩ := H
      go_wp2
      go_ret2
      exact ⟨q7_, q0_⟩
    ·replace c44 := Bool.eq_false_iff.mpr c44
     subst c44
     have H1 : (some (wrap64 (x7_1 + 1), true)) = some (r1, r2) := by rw [if_neg (show ¬ (false = true) by decide)] at H; exact H
     clear H; have H := H1; clear H1
     simp only [Option.some.injEq, Prod.mk.injEq] at H
     obtain ⟨rfl, rfl⟩ := H
     go_wp2
     go_ret2
     exact ⟨q7_, q0_⟩
def impl_size1.f (a0 : Int) : Option (Int) := some (mx a0 (wrap64 (-a0)))
theorem impl_size1.calls (a0 : Int) (r : Int) (w : World) (h : impl_size1.f a0 = some r) :
  Calls Try.prog 63 #[.int .i64 a0] w fun e w' => e = .returned (.int .i64 r) ∧ Below w.heap.size w w' := by
 have HB := A_ (Below.refl w.heap.size w)
 have H : (some (mx a0 (wrap64 (-a0)))) = some r := h
 clear h
 obtain ⟨ji2, hji2⟩ : ∃ j_ : Int, (mx a0 (wrap64 (-a0))) = j_ := ⟨_, rfl⟩
 replace H : (some ji2) = some r := by first | (rw [hji2] at H; exact H) | (simp only [hji2] at H ⊢; exact H)
 have hji2_ : (if a0 < (wrap64 (-a0)) then (wrap64 (-a0)) else a0) = ji2 := hji2
 obtain rfl := Option.some.inj H
 go_enter Try.func63, Try.ntmps63
 go_wp2
 go_ret
 exact ⟨by first | rfl | (simp [errW_none, errW_some] <;> rfl) | (simp only [← hji2]; first | rfl | (simp [errW_none, errW_some] <;> rfl)) | (simp [*, errW_none, errW_some] <;> rfl), q0_⟩
def impl_sumOfSizes.l0 : Nat → Int → List Int → Int → Int → Option (Int)
 | 0, _, _, _, _ => none
 | k + 1, x3, x6, x7, x8 => if x8 < x7 then (if 0 ≤ x8 then (if x8 < (x6.length : Int) then ((impl_size1.f (rd x6 x8)).bind fun t236 => (impl_sumOfSizes.l0 k (wrap64 (x3 + t236)) x6 x7 (wrap64 (x8 + 1)))) else (none)) else (none)) else (some x3)
def impl_sumOfSizes.f (k : Nat) (l0 : List Int) : Option (Int) := impl_sumOfSizes.l0 k 0 l0 (l0.length : Int) 0
theorem impl_sumOfSizes.calls (k : Nat) (A0 : Option Addr) (c0 : Nat) (l0 : List Int) (r : Int) (w : World) (hr0 : Kd.C (Kd.int .i64) w A0 l0.length l0) (hc0 : l0.length ≤ c0) (h : impl_sumOfSizes.f k l0 = some r) :
  Calls Try.prog 33 #[.slice A0 l0.length c0] w fun e w' => e = .returned (.int .i64 r) ∧ Below w.heap.size w w' := by
 have HR0 := A_ hr0; have HC0 := A_ hc0; clear hr0 hc0
 have HB := A_ (Below.refl w.heap.size w)
 have H : (impl_sumOfSizes.l0 k 0 l0 (l0.length : Int) 0) = some r := h
 clear h
 have H' := A_ H
 clear H
 go_enter Try.func33, Try.ntmps33
 go_wp2
 go_loopg [3, 8] k (fun kq v3 v8 w' => ∃ (x3_1 : Int) (x8_1 : Int), v3 = .int .i64 x3_1 ∧ v8 = .int .i64 x8_1 ∧ Aside0 (impl_sumOfSizes.l0 kq x3_1 l0 (l0.length : Int) x8_1 = some r) ∧ Aside0 (kq ≤ k) ∧ Aside0 (Below w.heap.size w w'))
 case atStart => exact ⟨(0), (0), q1_, q1_, H', ⟨Nat.le_refl _⟩, ⟨q0_⟩⟩
 case round =>
  clear H'; obtain ⟨x3_1, x8_1, rfl, rfl, HA, HK1, HB⟩ := hrel
  cases gk with
  | zero => exact absurd HA.out (by simp [impl_sumOfSizes.l0])
  | succ k1 =>
   have H := HA.out
   clear HA
   simp only [impl_sumOfSizes.l0] at H
   by_cases c2 : x8_1 < (l0.length : Int)
   ·rw [if_pos c2] at H
    have c2b0 : decide (x8_1 < (l0.length : Int)) = true := decide_eq_true c2
    clear c2
    by_cases c3 : 0 ≤ x8_1
    ·rw [if_pos c3] at H
     have c3b0 : decide (0 ≤ x8_1) = true := decide_eq_true c3
     clear c3
     by_cases c4 : x8_1 < (l0.length : Int)
     ·rw [if_pos c4] at H
      have c4b0 : decide (x8_1 < (l0.length : Int)) = true := decide_eq_true c4
      clear c4; replace H := Option.bind_eq_some_iff.mp H; obtain ⟨t236, A50, H⟩ := H
      replace H : (impl_sumOfSizes.l0 k1 (wrap64 (x3_1 + t236)) l0 (l0.length : Int) (wrap64 (x8_1 + 1))) = some r := H
      have A5 := A_ A50; clear A50
      have H' := A_ H
      clear H
      have p235 : 0 ≤ (x8_1 : Int) := of_decide_eq_true q5_
      have q235 : x8_1 < (l0.length : Int) := of_decide_eq_true q5_
      obtain ⟨ad235, e235, hx235_0⟩ := Kd.at_int HR0.out x8_1 p235 q235
      cases e235
      replace hx235_0 := (HB.out.cell (World.block_lt_of_cell? w _ hx235_0)).trans hx235_0
      replace p235 := eq_true p235
      replace q235 := eq_true q235
      go_wp2_with (first | ((with_reducible refine gate_callee (f := 63) rfl ?_); refine goesL_ (some 14) rfl rfl Try.func63 kr_ rfl #[.int .i64 (rd l0 x8_1)] rfl q2_ ?_; (with_reducible refine (impl_size1.calls (rd l0 x8_1) t236 _ A5.out).mono ?_); rintro e w6 ⟨rfl, hb⟩; refine ⟨_, rfl, ?_⟩; replace HB := A_ (below_step q0_ hb); (try clear hb); (try clear hb2); (try clear hk); (try clear hi)))
      go_roundg k1
      case measure => have := HK1.out; omega
      case rel => exact ⟨(wrap64 (x3_1 + t236)), (wrap64 (x8_1 + 1)), q1_, q1_, H', ⟨by have := HK1.out; omega⟩, ⟨q0_⟩⟩
     ·rw [if_neg c4] at H
      exact absurd H (by simp)
    ·rw [if_neg c3] at H
     exact absurd H (by simp)
   ·rw [if_neg c2] at H
    have c2b0 : decide (x8_1 < (l0.length : Int)) = false := decide_eq_false c2
    clear c2
    obtain rfl := Option.some.inj H
    go_wp2
    go_ret
    exact ⟨q7_, q0_⟩
end Go.Proofs.Ytloekoepknfodaa.Print
namespace Go.Proofs.Ytloekoepknfodaa.Print
open Go.RowKit Go.Proofs.YtloekoepknfodaaW.PrintWords Go.Proofs.YtloekoepknfodaaW.PrintLast Go.Proofs.YtloekoepknfodaaW.PrintMore
attribute [local go_sem] max2_int min2_int max_two min_two max_three min_three max_four min_four   -- for this text's walks alone
set_option linter.unusedVariables false
set_option linter.unusedSimpArgs false
open Go.Proofs.Ytloekoepknfodaa.M
def impl_TableOfWeights.ok (a : Int) : Bool := decide (-100 ≤ a ∧ a ≤ 100)
def impl_TableOfWeights.word (l : List Int) (t : Int) : Nat := prefW (fun x => decide (t ≤ wS l x l.length)) (2 ^ l.length)
def impl_TableOfWeights.f (l0 : List Int) (a1 : Int) : Option (Int × Int × Bool) := if l0.length ≤ 5 ∧ -1000 ≤ a1 ∧ a1 ≤ 1000 ∧ l0.all impl_TableOfWeights.ok = true then some ((l0.length : Int), ((impl_TableOfWeights.word l0 a1 : Nat) : Int), true) else some (0, 0, false)
theorem impl_TableOfWeights.clo1 (x : Int) (w : World) : Calls Try.prog 41 #[.int .i64 x] w fun e w' => e = .returned (.bool (!impl_TableOfWeights.ok x)) ∧ Below w.heap.size w w' := by
 unfold impl_TableOfWeights.ok
 by_cases h1 : x < -100
 ·have n1 : decide (x < -100) = true := decide_eq_true h1
  rw [decide_eq_false (by omega)]
  go_enter Try.func41, Try.ntmps41
  go_wp2_with (fail)
  go_ret
  exact ⟨rfl, by repeat (first | exact Below.refl _ _ | apply pw_below_drewN)⟩
 ·have n1 : decide (x < -100) = false := decide_eq_false h1
  have e : (!decide (-100 ≤ x ∧ x ≤ 100)) = decide (x > 100) := by
   by_cases h2 : x ≤ 100
   ·rw [decide_eq_true ⟨by omega, h2⟩, decide_eq_false (by omega)]; rfl
   ·rw [decide_eq_false (fun e => h2 e.2), decide_eq_true (by omega)]; rfl
  rw [e]
  clear e
  go_enter Try.func41, Try.ntmps41
  go_wp2_with (fail)
  go_ret
  exact ⟨rfl, by repeat (first | exact Below.refl _ _ | apply pw_below_drewN)⟩
theorem impl_TableOfWeights.small {l : List Int} (hl : l.all impl_TableOfWeights.ok = true) (x : Nat) : ∀ (i : Nat), -100 * (i : Int) ≤ wS l x i ∧ wS l x i ≤ 100 * (i : Int)
 | 0 => by simp [wS]
 | i + 1 => by
  have ih := impl_TableOfWeights.small hl x i
  have hg : -100 ≤ l.getD i 0 ∧ l.getD i 0 ≤ 100 := by
   by_cases h : i < l.length
   ·have := List.all_eq_true.mp hl l[i] (List.getElem_mem h)
    rw [List.getD_eq_getElem?_getD, List.getElem?_eq_getElem h, Option.getD_some]
    exact of_decide_eq_true this
   ·rw [List.getD_eq_getElem?_getD, List.getElem?_eq_none (by omega), Option.getD_none]; omega
  simp only [wS]
  split <;> constructor <;> omega
theorem impl_TableOfWeights.sum {l : List Int} (h5 : l.length ≤ 5) (hl : l.all impl_TableOfWeights.ok = true) (x : Nat) (hx : x < 2 ^ 62) : Ev (fun k => impl_weightAt.f k l (x : Int)) (wS l x l.length) := by
 refine Ev.congr (f := fun k => impl_weightAt.l0 k (x : Int) (wS l x 0) l (l.length : Int) ((0 : Nat) : Int)) (fun k => rfl) ?_
 refine Ev.count (fun k i => impl_weightAt.l0 k (x : Int) (wS l x i) l (l.length : Int) (i : Int)) l.length _ (fun i hi h => ?_) (Ev.end (fun k => ?_)) l.length 0 (by omega)
 ·have hs := impl_TableOfWeights.small hl x i
  have hs1 := impl_TableOfWeights.small hl x (i + 1)
  refine Ev.step (fun k => ?_) h
  simp only [impl_weightAt.l0]
  have hb := bit_nat (a := x) (n := i) (by omega) (by omega)
  rw [if_pos (by omega), if_pos (by omega), if_pos (by omega), up1 (by omega), hb, rd_nat]
  have e : wrap64 (wS l x i + wrap64 (l.getD i 0 * (((x.testBit i).toNat : Nat) : Int))) = wS l x (i + 1) := by
   simp only [wS] at hs1 ⊢
   cases hq : x.testBit i with
   | true =>
    rw [hq, if_pos rfl] at hs1
    rw [if_pos rfl, show (((true.toNat : Nat) : Int)) = 1 from rfl, Int.mul_one, w64 (x := l.getD i 0) (by omega) (by omega), w64 (by omega) (by omega)]
   | false =>
    rw [if_neg (by decide), show (((false.toNat : Nat) : Int)) = 0 from rfl, Int.mul_zero, w64 (x := 0) (by omega) (by omega), w64 (by omega) (by omega)]
  rw [e]
 ·simp only [impl_weightAt.l0]
  rw [if_neg (by omega)]
set_option maxHeartbeats 1600000 in
theorem impl_TableOfWeights.clo2 (l : List Int) (t s : Int) (x : Nat) (I J : Nat) (A : Option Addr) (c k : Nat) (w : World) (hI : w.cell? ⟨I, 0, none⟩ = some (.slice A l.length c)) (hJ : w.cell? ⟨J, 0, none⟩ = some (.int .i64 t)) (hr : Kd.C (Kd.int .i64) w A l.length l) (hc : l.length ≤ c) (hs : impl_weightAt.f k l (x : Int) = some s) :
  Calls Try.prog 43 #[.int .i64 (x : Int), .pointer (some ⟨I, 0, none⟩), .pointer (some ⟨J, 0, none⟩)] w fun e w' => e = .returned (.bool (decide (t ≤ s))) ∧ Below w.heap.size w w' := by
 have A1 := A_ hs; have HR := A_ hr; have HCC := A_ hc; clear hs hr hc
 go_enter Try.func43, Try.ntmps43
 go_wp2
 go_quiet (first | (go_at_call 44; (with_reducible refine (impl_weightAt.calls k A c l (x : Int) s _ ?side HCC.out A1.out).mono ?_); (case side => repeat (first | exact HR.out | (with_reducible refine Kd.C_alloc ?_ _) | (with_reducible refine Kd.C_drewN ?_ _) | (with_reducible refine Kd.C_drew ?_))); rintro e w' ⟨rfl, ⟨nd2, rfl⟩⟩; (first | exact ⟨rfl, _, World.drewN_drewN _ _ _⟩ | exact ⟨rfl, _, Eq.trans (World.drewN_drewN _ _ _) (congrArg (World.drewN _) (Nat.add_assoc _ _ _))⟩)))
 try go_wp2
 go_ret
 exact ⟨rfl, by repeat (first | exact Below.refl _ _ | apply pw_below_drewN)⟩
theorem impl_TableOfWeights.has (A : Option Addr) (c : Nat) (l : List Int) (w : World) (hr : Kd.C (Kd.int .i64) w A l.length l) :
  Calls Try.prog 40 #[.slice A l.length c, .func (.func 41) #[] #[]] w fun e w' => e = .returned (.bool (!(l.all impl_TableOfWeights.ok))) ∧ Below w.heap.size w w' := by
 have h := slices_ContainsFunc_int_int.call (fun a => !impl_TableOfWeights.ok a) 41 #[] (enters_of Try.func41 kr_ rfl) A c l w hr hr.2.1 (fun x W _ _ => impl_TableOfWeights.clo1 x W)
 have e : l.any (fun a => !impl_TableOfWeights.ok a) = !(l.all impl_TableOfWeights.ok) := by
  rw [List.not_all_eq_any_not]
 rw [e] at h
 exact h
set_option maxHeartbeats 1600000 in
theorem impl_TableOfWeights.aux (N M : Nat) (hN : N ≤ 5) (hM : M ≤ 32) (e10 : wrap64 ((2 : Int) ^ N) = (M : Int)) (g : Nat → Bool) (I J : Nat) (w : World)
  (hc : ∀ (x : Nat) (W : World), x < M → Below w.heap.size w W → Calls Try.prog 43 #[.int .i64 (x : Int), .pointer (some ⟨I, 0, none⟩), .pointer (some ⟨J, 0, none⟩)] W fun e W' => e = .returned (.bool (g x)) ∧ Below W.heap.size W W') :
  Calls Try.prog 42 #[.int .i64 (N : Int), .func (.func 43) #[] #[.pointer (some ⟨I, 0, none⟩), .pointer (some ⟨J, 0, none⟩)]] w fun e w' => e = .returned (.agg #[.int .i64 (N : Int), .int .i64 ((prefW g M : Nat) : Int)]) ∧ Below w.heap.size w w' := by
 have huT := Try.underlying25
 have hH := A_ hc; clear hc
 have hS := A_ (impl_makeTable.I.start w N g)
 go_enter Try.func42, Try.ntmps42
 go_wp2
 rw [e10]
 clear e10
 go_loopw [11] (fun v11 wr => ∃ x : Nat, x ≤ M ∧ v11 = .int .i64 (x : Int) ∧ Aside0 (impl_makeTable.I w N g x wr)) (fun v11 _ => M - (intOf v11).toNat)
 case atStart => exact ⟨0, Nat.zero_le _, rfl, hS⟩
 case round =>
  obtain ⟨x, hx, rfl, HI⟩ := hrel; clear hS
  have c0 : wr.cell? ⟨w.heap.size, 0, none⟩ = some (.int .i64 0) := blk_cell HI.out.1 0
  have c1 : wr.cell? ⟨w.heap.size, 1, none⟩ = some (.int .i64 0) := blk_cell HI.out.1 1
  have z0 := blk_frozen HI.out.1 0
  have z1 := blk_frozen HI.out.1 1
  have d0 : wr.cell? ⟨w.heap.size + 1, 0, none⟩ = some (.int .i64 (N : Int)) := blk_cell HI.out.2.1 0
  have d1 : wr.cell? ⟨w.heap.size + 1, 1, none⟩ = some (.int .i64 ((prefW g x : Nat) : Int)) := blk_cell HI.out.2.1 1
  by_cases hlt : x < M
  ·have hC := A_ (hH.out x wr hlt HI.out.2.2)
   cases hg : g x with
   | false =>
    rw [hg] at hC
    have HG := A_ hg; clear hg
    go_wp2_with (first | (go_at_call 43; (with_reducible refine hC.out.mono ?_); rintro e w1 ⟨rfl, hb⟩))
    go_roundw
    case rel => exact ⟨x + 1, by omega, by go_num, ⟨(HI.out.call hb).skip HG.out⟩⟩
    case measure => simp [intOf]; omega
   | true =>
    rw [hg] at hC
    have HG := A_ hg; clear hg
    go_wp2_with (first | (go_at_call 43; (with_reducible refine hC.out.mono ?_); rintro e w1 ⟨rfl, hb⟩))
    have HI1 := A_ (HI.out.call hb)
    have d1' : w1.cell? ⟨w.heap.size + 1, 1, none⟩ = some (.int .i64 ((prefW g x : Nat) : Int)) := blk_cell HI1.out.2.1 1
    have z1' : w1.frozen? ⟨w.heap.size + 1, 1, none⟩ = false := blk_frozen HI1.out.2.1 1
    clear c0 c1 z0 z1 d0 d1
    go_region
    all_goals
     go_wp2
     go_roundw
     case rel =>
      refine ⟨x + 1, by omega, by go_num, ?_⟩
      ·exact ⟨(HI1.out.set HG.out (by omega) (by rw [show shl .i64 1 (x : Int) = wrap64 (2 ^ x) from by unfold shl; rw [min_bits (by omega), Int.one_mul, i64_w]])).drew⟩
     case measure => simp [intOf]; omega
  ·obtain rfl : x = M := by omega
   go_wp2
   exact bodyPost_ret (v := .agg #[.int .i64 (N : Int), .int .i64 ((prefW g x : Nat) : Int)]) (by simp [results, Try.results42, go_sem, c0, c1, d0, d1]) rfl ⟨rfl, (HI.out.2.2.setCell (p := ⟨w.heap.size, 0, none⟩) (Nat.le_refl _) _).setCell (p := ⟨w.heap.size, 1, none⟩) (Nat.le_refl _) _⟩
theorem impl_TableOfWeights.mk (l : List Int) (t : Int) (h5 : l.length ≤ 5) (hl : l.all impl_TableOfWeights.ok = true) (I J : Nat) (A : Option Addr) (c : Nat) (w : World) (hI : w.cell? ⟨I, 0, none⟩ = some (.slice A l.length c)) (hJ : w.cell? ⟨J, 0, none⟩ = some (.int .i64 t)) (hr : Kd.C (Kd.int .i64) w A l.length l) (hc : l.length ≤ c) :
  Calls Try.prog 42 #[.int .i64 (l.length : Int), .func (.func 43) #[] #[.pointer (some ⟨I, 0, none⟩), .pointer (some ⟨J, 0, none⟩)]] w fun e w' => e = .returned (.agg #[.int .i64 (l.length : Int), .int .i64 ((impl_TableOfWeights.word l t : Nat) : Int)]) ∧ Below w.heap.size w w' := by
 have h16 : 2 ^ l.length ≤ 32 := pow_le_5 h5
 have e10 : wrap64 ((2 : Int) ^ l.length) = ((2 ^ l.length : Nat) : Int) := by
  have : ((2 : Int) ^ l.length) = ((2 ^ l.length : Nat) : Int) := by push_cast; rfl
  rw [this]
  obtain ⟨P, hP⟩ : ∃ P, P = 2 ^ l.length := ⟨_, rfl⟩
  rw [← hP] at h16 ⊢
  exact w64 (by omega) (by omega)
 have lI := World.block_lt_of_cell? w ⟨I, 0, none⟩ hI
 have lJ := World.block_lt_of_cell? w ⟨J, 0, none⟩ hJ
 exact impl_TableOfWeights.aux l.length (2 ^ l.length) h5 h16 e10 (fun x => decide (t ≤ wS l x l.length)) I J w (fun x W hx hb' => by
  obtain ⟨k, hk⟩ := impl_TableOfWeights.sum h5 hl x (by omega)
  exact impl_TableOfWeights.clo2 l t _ x I J A c k W ((hb'.cell (p := ⟨I, 0, none⟩) lI).trans hI) ((hb'.cell (p := ⟨J, 0, none⟩) lJ).trans hJ) (Kd.C_below hr hb') hc (hk k (Nat.le_refl _)))
set_option maxHeartbeats 1600000 in
set_option maxRecDepth 100000 in
theorem impl_TableOfWeights.early (A : Option Addr) (c : Nat) (l : List Int) (t : Int) (w : World) (h : ¬ (l.length ≤ 5 ∧ -1000 ≤ t ∧ t ≤ 1000)) :
  Calls Try.prog 12 #[.slice A l.length c, .int .i64 t] w fun e w' => e = .returned (.tuple #[.agg #[.int .i64 0, .int .i64 0], .bool false]) ∧ Below w.heap.size w w' := by
 have huT := Try.underlying25
 by_cases h5 : l.length ≤ 5
 ·have n5 : decide ((l.length : Int) > 5) = false := decide_eq_false (by omega)
  by_cases h1 : t < -1000
  ·have n1 : decide (t < -1000) = true := decide_eq_true h1
   clear h h5 h1
   go_enter Try.func12, Try.ntmps12
   go_wp2_with (fail)
   exact bodyPost_ret (v := .tuple #[.agg #[.int .i64 0, .int .i64 0], .bool false]) (by simp [results, Try.results12, go_sem]) rfl ⟨rfl, (((Below.refl _ _).alloc (Nat.le_refl _) _).alloc (by simp) _).alloc (by simp; omega) _⟩
  ·have n1 : decide (t < -1000) = false := decide_eq_false h1
   have n2 : decide (t > 1000) = true := decide_eq_true (by omega)
   clear h h5 h1
   go_enter Try.func12, Try.ntmps12
   go_wp2_with (fail)
   exact bodyPost_ret (v := .tuple #[.agg #[.int .i64 0, .int .i64 0], .bool false]) (by simp [results, Try.results12, go_sem]) rfl ⟨rfl, (((Below.refl _ _).alloc (Nat.le_refl _) _).alloc (by simp) _).alloc (by simp; omega) _⟩
 ·have n5 : decide ((l.length : Int) > 5) = true := decide_eq_true (by omega)
  clear h h5
  go_enter Try.func12, Try.ntmps12
  go_wp2_with (fail)
  exact bodyPost_ret (v := .tuple #[.agg #[.int .i64 0, .int .i64 0], .bool false]) (by simp [results, Try.results12, go_sem]) rfl ⟨rfl, (((Below.refl _ _).alloc (Nat.le_refl _) _).alloc (by simp) _).alloc (by simp; omega) _⟩
set_option maxHeartbeats 1600000 in
set_option maxRecDepth 100000 in
theorem impl_TableOfWeights.late (A : Option Addr) (c : Nat) (l : List Int) (t : Int) (w : World) (hr : Kd.C (Kd.int .i64) w A l.length l) (hc : l.length ≤ c) (h5 : l.length ≤ 5) (h1 : -1000 ≤ t) (h2 : t ≤ 1000) :
  Calls Try.prog 12 #[.slice A l.length c, .int .i64 t] w fun e w' => e = .returned (if l.all impl_TableOfWeights.ok = true then .tuple #[.agg #[.int .i64 (l.length : Int), .int .i64 ((impl_TableOfWeights.word l t : Nat) : Int)], .bool true] else .tuple #[.agg #[.int .i64 0, .int .i64 0], .bool false]) ∧ Below w.heap.size w w' := by
 have huT := Try.underlying25
 have n5 : decide ((l.length : Int) > 5) = false := decide_eq_false (by omega)
 have n1 : decide (t < -1000) = false := decide_eq_false (by omega)
 have n2 : decide (t > 1000) = false := decide_eq_false (by omega)
 have HB : Aside0 (Below w.heap.size w (((w.alloc (.cells #[.slice A l.length c] 27)).alloc (.cells #[.int .i64 t] 3)).alloc (.cells #[.int .i64 0, .int .i64 0] 25))) := ⟨(((Below.refl _ _).alloc (Nat.le_refl _) _).alloc (by simp) _).alloc (by simp; omega) _⟩
 have HR : Aside0 ((((w.alloc (.cells #[.slice A l.length c] 27)).alloc (.cells #[.int .i64 t] 3)).alloc (.cells #[.int .i64 0, .int .i64 0] 25)).heap[w.heap.size + 1 + 1]? = some (.cells #[.int .i64 0, .int .i64 0] 25 (0, 0))) := ⟨by simpa using blk_new ((w.alloc (.cells #[.slice A l.length c] 27)).alloc (.cells #[.int .i64 t] 3)) (.cells #[.int .i64 0, .int .i64 0] 25)⟩
 have HI : Aside0 ((((w.alloc (.cells #[.slice A l.length c] 27)).alloc (.cells #[.int .i64 t] 3)).alloc (.cells #[.int .i64 0, .int .i64 0] 25)).heap[w.heap.size]? = some (.cells #[.slice A l.length c] 27 (0, 0))) := ⟨by simpa using blk_alloc (blk_alloc (blk_new w (.cells #[.slice A l.length c] 27)) (.cells #[.int .i64 t] 3)) (.cells #[.int .i64 0, .int .i64 0] 25)⟩
 have HJ : Aside0 ((((w.alloc (.cells #[.slice A l.length c] 27)).alloc (.cells #[.int .i64 t] 3)).alloc (.cells #[.int .i64 0, .int .i64 0] 25)).heap[w.heap.size + 1]? = some (.cells #[.int .i64 t] 3 (0, 0))) := ⟨by simpa using blk_alloc (blk_new (w.alloc (.cells #[.slice A l.length c] 27)) (.cells #[.int .i64 t] 3)) (.cells #[.int .i64 0, .int .i64 0] 25)⟩
 have HH := A_ (impl_TableOfWeights.has A c l (((w.alloc (.cells #[.slice A l.length c] 27)).alloc (.cells #[.int .i64 t] 3)).alloc (.cells #[.int .i64 0, .int .i64 0] 25)) (Kd.C_below hr HB.out))
 have HX := A_ hr; have HCC := A_ hc
 cases hb : l.all impl_TableOfWeights.ok with
 | false =>
  rw [if_neg (by decide)]
  rw [hb] at HH
  have HH : Aside0 (Calls Try.prog 40 #[.slice A l.length c, .func (.func 41) #[] #[]] (((w.alloc (.cells #[.slice A l.length c] 27)).alloc (.cells #[.int .i64 t] 3)).alloc (.cells #[.int .i64 0, .int .i64 0] 25)) fun e w' => e = .returned (.bool true) ∧ Below (((w.alloc (.cells #[.slice A l.length c] 27)).alloc (.cells #[.int .i64 t] 3)).alloc (.cells #[.int .i64 0, .int .i64 0] 25)).heap.size (((w.alloc (.cells #[.slice A l.length c] 27)).alloc (.cells #[.int .i64 t] 3)).alloc (.cells #[.int .i64 0, .int .i64 0] 25)) w') := HH
  clear hr hc h5 h1 h2 hb
  go_enter Try.func12, Try.ntmps12
  go_wp2_with (first | (go_at_call 40; (with_reducible refine HH.out.mono ?_); rintro e w1 ⟨rfl, hb1⟩; have RB := A_ (blk_below HR.out hb1); have BB := A_ (HB.out.trans (hb1.mono HB.out.size)); clear hb1; have r0 : w1.cell? ⟨w.heap.size + 1 + 1, 0, none⟩ = some (.int .i64 0) := blk_cell RB.out 0; have r1 : w1.cell? ⟨w.heap.size + 1 + 1, 1, none⟩ = some (.int .i64 0) := blk_cell RB.out 1; have z0 := blk_frozen RB.out 0; have z1 := blk_frozen RB.out 1))
  exact bodyPost_ret (v := .tuple #[.agg #[.int .i64 0, .int .i64 0], .bool false]) (by simp [results, Try.results12, go_sem, r0, r1]) rfl ⟨rfl, (BB.out.setCell (p := ⟨w.heap.size + 1 + 1, 0, none⟩) (by show w.heap.size ≤ w.heap.size + 1 + 1; omega) _).setCell (p := ⟨w.heap.size + 1 + 1, 1, none⟩) (by show w.heap.size ≤ w.heap.size + 1 + 1; omega) _⟩
 | true =>
  rw [if_pos rfl]
  rw [hb] at HH
  have HH : Aside0 (Calls Try.prog 40 #[.slice A l.length c, .func (.func 41) #[] #[]] (((w.alloc (.cells #[.slice A l.length c] 27)).alloc (.cells #[.int .i64 t] 3)).alloc (.cells #[.int .i64 0, .int .i64 0] 25)) fun e w' => e = .returned (.bool false) ∧ Below (((w.alloc (.cells #[.slice A l.length c] 27)).alloc (.cells #[.int .i64 t] 3)).alloc (.cells #[.int .i64 0, .int .i64 0] 25)).heap.size (((w.alloc (.cells #[.slice A l.length c] 27)).alloc (.cells #[.int .i64 t] 3)).alloc (.cells #[.int .i64 0, .int .i64 0] 25)) w') := HH
  have HM : Aside0 (∀ W, Below (((w.alloc (.cells #[.slice A l.length c] 27)).alloc (.cells #[.int .i64 t] 3)).alloc (.cells #[.int .i64 0, .int .i64 0] 25)).heap.size (((w.alloc (.cells #[.slice A l.length c] 27)).alloc (.cells #[.int .i64 t] 3)).alloc (.cells #[.int .i64 0, .int .i64 0] 25)) W → Calls Try.prog 42 #[.int .i64 (l.length : Int), .func (.func 43) #[] #[.pointer (some ⟨w.heap.size, 0, none⟩), .pointer (some ⟨w.heap.size + 1, 0, none⟩)]] W fun e w' => e = .returned (.agg #[.int .i64 (l.length : Int), .int .i64 ((impl_TableOfWeights.word l t : Nat) : Int)]) ∧ Below W.heap.size W w') := ⟨fun W hW => impl_TableOfWeights.mk l t h5 hb w.heap.size (w.heap.size + 1) A c W (blk_cell (blk_below HI.out hW) 0) (blk_cell (blk_below HJ.out hW) 0) (Kd.C_below hr (HB.out.trans (hW.mono HB.out.size))) hc⟩
  generalize ((impl_TableOfWeights.word l t : Nat) : Int) = q at *
  clear hr hc h5 h1 h2 hb
  go_enter Try.func12, Try.ntmps12
  go_wp2_with (first | (go_at_call 40; (with_reducible refine HH.out.mono ?_); rintro e w1 ⟨rfl, hb1⟩; have RB := A_ (blk_below HR.out hb1); have RI := A_ (blk_below HI.out hb1); have BB := A_ (HB.out.trans (hb1.mono HB.out.size)); have B1 := A_ hb1; clear hb1; have i0 : w1.cell? ⟨w.heap.size, 0, none⟩ = some (.slice A l.length c) := blk_cell RI.out 0) | (go_at_call 42; (with_reducible refine (HM.out _ (pw_below_drewN B1.out _)).mono ?_); rintro e w2 ⟨rfl, hb2⟩; have RB2 := A_ (blk_below RB.out hb2); have BB2 := A_ (BB.out.trans (hb2.mono BB.out.size)); clear hb2 i0; have r0 : w2.cell? ⟨w.heap.size + 1 + 1, 0, none⟩ = some (.int .i64 0) := blk_cell RB2.out 0; have r1 : w2.cell? ⟨w.heap.size + 1 + 1, 1, none⟩ = some (.int .i64 0) := blk_cell RB2.out 1; have z0 := blk_frozen RB2.out 0; have z1 := blk_frozen RB2.out 1) | (go_at_call 42; (with_reducible refine (HM.out _ B1.out).mono ?_); rintro e w2 ⟨rfl, hb2⟩; have RB2 := A_ (blk_below RB.out hb2); have BB2 := A_ (BB.out.trans (hb2.mono BB.out.size)); clear hb2 i0; have r0 : w2.cell? ⟨w.heap.size + 1 + 1, 0, none⟩ = some (.int .i64 0) := blk_cell RB2.out 0; have r1 : w2.cell? ⟨w.heap.size + 1 + 1, 1, none⟩ = some (.int .i64 0) := blk_cell RB2.out 1; have z0 := blk_frozen RB2.out 0; have z1 := blk_frozen RB2.out 1))
  exact bodyPost_ret (v := .tuple #[.agg #[.int .i64 (l.length : Int), .int .i64 q], .bool true]) (by simp [results, Try.results12, go_sem, r0, r1]) rfl ⟨rfl, (BB2.out.setCell (p := ⟨w.heap.size + 1 + 1, 0, none⟩) (by show w.heap.size ≤ w.heap.size + 1 + 1; omega) _).setCell (p := ⟨w.heap.size + 1 + 1, 1, none⟩) (by show w.heap.size ≤ w.heap.size + 1 + 1; omega) _⟩
theorem impl_TableOfWeights.calls (A0 : Option Addr) (c0 : Nat) (l0 : List Int) (a1 : Int) (r1 : Int) (r2 : Int) (r3 : Bool) (w : World) (hr0 : Kd.C (Kd.int .i64) w A0 l0.length l0) (hc0 : l0.length ≤ c0) (h : impl_TableOfWeights.f l0 a1 = some (r1, r2, r3)) :
  Calls Try.prog 12 #[.slice A0 l0.length c0, .int .i64 a1] w fun e w' => e = .returned (.tuple #[.agg #[.int .i64 r1, .int .i64 r2], .bool r3]) ∧ Below w.heap.size w w' := by
 unfold impl_TableOfWeights.f at h
 by_cases h1 : l0.length ≤ 5 ∧ -1000 ≤ a1 ∧ a1 ≤ 1000
 ·have hl := impl_TableOfWeights.late A0 c0 l0 a1 w hr0 hc0 h1.1 h1.2.1 h1.2.2
  by_cases h2 : l0.all impl_TableOfWeights.ok = true
  ·rw [if_pos ⟨h1.1, h1.2.1, h1.2.2, h2⟩] at h
   rw [if_pos h2] at hl
   simp only [Option.some.injEq, Prod.mk.injEq] at h
   obtain ⟨rfl, rfl, rfl⟩ := h
   exact hl
  ·rw [if_neg (fun e => h2 e.2.2.2)] at h
   rw [if_neg h2] at hl
   simp only [Option.some.injEq, Prod.mk.injEq] at h
   obtain ⟨rfl, rfl, rfl⟩ := h
   exact hl
 ·rw [if_neg (fun e => h1 ⟨e.1, e.2.1, e.2.2.1⟩)] at h
  simp only [Option.some.injEq, Prod.mk.injEq] at h
  obtain ⟨rfl, rfl, rfl⟩ := h
  exact impl_TableOfWeights.early A0 c0 l0 a1 w h1
end Go.Proofs.Ytloekoepknfodaa.Print
namespace Go.Proofs.Ytloekoepknfodaa.Print
open Go.RowKit Go.Proofs.YtloekoepknfodaaW.PrintWords Go.Proofs.YtloekoepknfodaaW.PrintLast Go.Proofs.YtloekoepknfodaaW.PrintMore
attribute [local go_sem] max2_int min2_int max_two min_two max_three min_three max_four min_four   -- for this text's walks alone
set_option linter.unusedVariables false
set_option linter.unusedSimpArgs false
def impl_spread.f (a0 : Int) (a1 : Int) (a2 : Int) : Option (Int) := if 0 ≤ a1 then (some (Go.bits .or .i64 (Go.bits .or .i64 (wrap64 ((wrap64 (a0 - (Go.bits .and .i64 a0 (wrap64 ((shl .i64 1 a1) - 1))))) * 2)) (shl .i64 a2 a1)) (Go.bits .and .i64 a0 (wrap64 ((shl .i64 1 a1) - 1))))) else (none)
set_option maxHeartbeats 8000000 in
set_option maxRecDepth 100000 in
theorem impl_spread.calls (a0 : Int) (a1 : Int) (a2 : Int) (r : Int) (w : World) (h : impl_spread.f a0 a1 a2 = some r) :
  Calls Try.prog 78 #[.int .i64 a0, .int .i64 a1, .int .i64 a2] w fun e w' => e = .returned (.int .i64 r) ∧ Drawn0 w w' := by
 have H : (if 0 ≤ a1 then (some (Go.bits .or .i64 (Go.bits .or .i64 (wrap64 ((wrap64 (a0 - (Go.bits .and .i64 a0 (wrap64 ((shl .i64 1 a1) - 1))))) * 2)) (shl .i64 a2 a1)) (Go.bits .and .i64 a0 (wrap64 ((shl .i64 1 a1) - 1))))) else (none)) = some r := h
 clear h
 by_cases c4 : 0 ≤ a1
 ·rw [if_pos c4] at H
  have c4b0 := eq_true c4
  have c4b1 : decide (0 ≤ a1) = true := decide_eq_true c4
  clear c4
  obtain ⟨ji5, hji5⟩ : ∃ j_ : Int, (shl .i64 1 a1) = j_ := ⟨_, rfl⟩
  replace H : (some (Go.bits .or .i64 (Go.bits .or .i64 (wrap64 ((wrap64 (a0 - (Go.bits .and .i64 a0 (wrap64 ((ji5) - 1))))) * 2)) (shl .i64 a2 a1)) (Go.bits .and .i64 a0 (wrap64 ((ji5) - 1))))) = some r := q13_
  have hji5_ : (IntKind.i64.wrap (1 * 2 ^ min a1.toNat 64)) = ji5 := hji5
  have hji5z : a1 ≤ 64 → (IntKind.i64.wrap (1 * 2 ^ a1.toNat)) = ji5 := shl_small hji5
  have hji5u : (IntKind.i64.wrap (2 ^ min a1.toNat 64)) = ji5 := by have h_ := hji5_; rw [Int.one_mul] at h_; exact h_
  have hji5v : a1 ≤ 64 → (IntKind.i64.wrap (2 ^ a1.toNat)) = ji5 := fun hle_ => by have h_ := hji5z hle_; rw [Int.one_mul] at h_; exact h_
  have hji5y : (wrap64 (1 * 2 ^ min a1.toNat 64)) = ji5 := (i64_w _).symm.trans hji5_
  have hji5x : a1 ≤ 64 → (wrap64 (1 * 2 ^ a1.toNat)) = ji5 := fun h_ => (i64_w _).symm.trans (hji5z h_)
  have c6b0 := eq_true (of_decide_eq_true q5_ : 0 ≤ a1)
  obtain ⟨ji7, hji7⟩ : ∃ j_ : Int, (shl .i64 a2 a1) = j_ := ⟨_, rfl⟩
  replace H : (some (Go.bits .or .i64 (Go.bits .or .i64 (wrap64 ((wrap64 (a0 - (Go.bits .and .i64 a0 (wrap64 ((ji5) - 1))))) * 2)) (ji7)) (Go.bits .and .i64 a0 (wrap64 ((ji5) - 1))))) = some r := by first | (rw [hji7] at H; exact H) | (simp only [hji7] at H ⊢; exact H)
  have hji7_ : (IntKind.i64.wrap (a2 * 2 ^ min a1.toNat 64)) = ji7 := hji7
  have hji7z : a1 ≤ 64 → (IntKind.i64.wrap (a2 * 2 ^ a1.toNat)) = ji7 := shl_small hji7
  have hji7y : (wrap64 (a2 * 2 ^ min a1.toNat 64)) = ji7 := (i64_w _).symm.trans hji7_
  have hji7x : a1 ≤ 64 → (wrap64 (a2 * 2 ^ a1.toNat)) = ji7 := fun h_ => (i64_w _).symm.trans (hji7z h_)
  obtain rfl := Option.some.inj H
  go_enter Try.func78, Try.ntmps78
  go_wp2
  go_ret
  exact ⟨by first | rfl | (simp; done) | (simp only [← hji5, ← hji7] <;> (first | rfl | simp)) | (simp [*]; done), q9_⟩
 ·rw [if_neg c4] at H
  exact absurd H (by simp)
end Go.Proofs.Ytloekoepknfodaa.Print
namespace Go.Proofs.Ytloekoepknfodaa.Print
open Go.RowKit Go.Proofs.YtloekoepknfodaaW.PrintWords Go.Proofs.YtloekoepknfodaaW.PrintLast Go.Proofs.YtloekoepknfodaaW.PrintMore
attribute [local go_sem] max2_int min2_int max_two min_two max_three min_three max_four min_four   -- for this text's walks alone
set_option linter.unusedVariables false
set_option linter.unusedSimpArgs false
open Go.Proofs.Ytloekoepknfodaa.M
def impl_Table_restrict.rS (w : World) (F I B : Nat) (n v i b : Int) (W : World) : Prop :=
 W.cell? ⟨F, 0, none⟩ = some (.int .i64 n) ∧ W.cell? ⟨F, 1, none⟩ = some (.int .i64 v) ∧ W.cell? ⟨I, 0, none⟩ = some (.int .i64 i) ∧ W.cell? ⟨B, 0, none⟩ = some (.int .i64 b) ∧ Below w.heap.size w W
theorem impl_Table_restrict.rS.step {w : World} {F I B : Nat} {n v i b : Int} {W W' : World} (hF : F < w.heap.size) (hI : I < w.heap.size) (hB : B < w.heap.size) (h : impl_Table_restrict.rS w F I B n v i b W) (hb : Below W.heap.size W W') : impl_Table_restrict.rS w F I B n v i b W' := by
 obtain ⟨h1, h2, h3, h4, h5⟩ := h
 have hs := h5.size
 exact ⟨(hb.cell (p := ⟨F, 0, none⟩) (by show F < _; omega)).trans h1, (hb.cell (p := ⟨F, 1, none⟩) (by show F < _; omega)).trans h2, (hb.cell (p := ⟨I, 0, none⟩) (by show I < _; omega)).trans h3, (hb.cell (p := ⟨B, 0, none⟩) (by show B < _; omega)).trans h4, h5.trans (hb.mono hs)⟩
set_option maxHeartbeats 800000 in
theorem impl_Table_restrict.clo (n v i b x y r : Int) (F I B : Nat) (w : World) (hF : F < w.heap.size) (hI : I < w.heap.size) (hB : B < w.heap.size)
  (f0 : w.cell? ⟨F, 0, none⟩ = some (.int .i64 n)) (f1 : w.cell? ⟨F, 1, none⟩ = some (.int .i64 v)) (fi : w.cell? ⟨I, 0, none⟩ = some (.int .i64 i)) (fb : w.cell? ⟨B, 0, none⟩ = some (.int .i64 b))
  (hs : impl_spread.f x i b = some y) (ha : impl_Table_at.f n v y = some r) :
  Calls Try.prog 77 #[.int .i64 x, .pointer (some ⟨F, 0, none⟩), .pointer (some ⟨I, 0, none⟩), .pointer (some ⟨B, 0, none⟩)] w fun e w' => e = .returned (.bool (r == 1)) ∧ Below w.heap.size w w' := by
 have A1 := A_ hs; have A2 := A_ ha; clear hs ha
 have huT := Try.underlying25
 go_enter Try.func77, Try.ntmps77
 go_wp2
 have h0 : impl_Table_restrict.rS w F I B n v i b w.drew := ⟨f0, f1, fi, fb, (Below.refl _ _).drew⟩
 go_region_held3 (fun W => W.cell? ⟨F, 0, none⟩ = some (.int .i64 n) ∧ W.cell? ⟨F, 1, none⟩ = some (.int .i64 v) ∧ W.cell? ⟨I, 0, none⟩ = some (.int .i64 i) ∧ W.cell? ⟨B, 0, none⟩ = some (.int .i64 b) ∧ Below w.heap.size w W) (first | exact h0 | (refine impl_Table_restrict.rS.step hF hI hB (by assumption) ?_; first | assumption | (refine Drawn0.below ?_; assumption) | exact Below.refl _ _))
  (first | (go_at_call 78; (with_reducible refine (impl_spread.calls x i b y _ A1.out).mono ?_); rintro e w' ⟨rfl, hd⟩) | (go_at_call 38; (with_reducible refine (impl_Table_at.calls n v y r _ A2.out).mono ?_); rintro e w' ⟨rfl, hb⟩))
 go_wp2
 go_ret
 exact ⟨rfl, (by assumption : _ ∧ _ ∧ _ ∧ _ ∧ _).2.2.2.2⟩
set_option maxHeartbeats 1600000 in
theorem impl_Table_restrict.aux (N M : Nat) (hN : N ≤ 5) (hM : M ≤ 32) (e10 : wrap64 ((2 : Int) ^ N) = (M : Int)) (g : Nat → Bool) (F I B : Nat) (w : World)
  (hc : ∀ (x : Nat) (W : World), x < M → Below w.heap.size w W → Calls Try.prog 77 #[.int .i64 (x : Int), .pointer (some ⟨F, 0, none⟩), .pointer (some ⟨I, 0, none⟩), .pointer (some ⟨B, 0, none⟩)] W fun e W' => e = .returned (.bool (g x)) ∧ Below W.heap.size W W') :
  Calls Try.prog 42 #[.int .i64 (N : Int), .func (.func 77) #[] #[.pointer (some ⟨F, 0, none⟩), .pointer (some ⟨I, 0, none⟩), .pointer (some ⟨B, 0, none⟩)]] w fun e w' => e = .returned (.agg #[.int .i64 (N : Int), .int .i64 ((prefW g M : Nat) : Int)]) ∧ Below w.heap.size w w' := by
 have huT := Try.underlying25
 have hH := A_ hc; clear hc
 have hS := A_ (impl_makeTable.I.start w N g)
 go_enter Try.func42, Try.ntmps42
 go_wp2
 rw [e10]
 clear e10
 go_loopw [11] (fun v11 wr => ∃ x : Nat, x ≤ M ∧ v11 = .int .i64 (x : Int) ∧ Aside0 (impl_makeTable.I w N g x wr)) (fun v11 _ => M - (intOf v11).toNat)
 case atStart => exact ⟨0, Nat.zero_le _, rfl, hS⟩
 case round =>
  obtain ⟨x, hx, rfl, HI⟩ := hrel; clear hS
  have c0 : wr.cell? ⟨w.heap.size, 0, none⟩ = some (.int .i64 0) := blk_cell HI.out.1 0
  have c1 : wr.cell? ⟨w.heap.size, 1, none⟩ = some (.int .i64 0) := blk_cell HI.out.1 1
  have z0 := blk_frozen HI.out.1 0
  have z1 := blk_frozen HI.out.1 1
  have d0 : wr.cell? ⟨w.heap.size + 1, 0, none⟩ = some (.int .i64 (N : Int)) := blk_cell HI.out.2.1 0
  have d1 : wr.cell? ⟨w.heap.size + 1, 1, none⟩ = some (.int .i64 ((prefW g x : Nat) : Int)) := blk_cell HI.out.2.1 1
  by_cases hlt : x < M
  ·have hC := A_ (hH.out x wr hlt HI.out.2.2)
   cases hg : g x with
   | false =>
    rw [hg] at hC
    have HG := A_ hg; clear hg
    go_wp2_with (first | (go_at_call 77; (with_reducible refine hC.out.mono ?_); rintro e w1 ⟨rfl, hb⟩))
    go_roundw
    case rel => exact ⟨x + 1, by omega, by go_num, ⟨(HI.out.call hb).skip HG.out⟩⟩
    case measure => simp [intOf]; omega
   | true =>
    rw [hg] at hC
    have HG := A_ hg; clear hg
    go_wp2_with (first | (go_at_call 77; (with_reducible refine hC.out.mono ?_); rintro e w1 ⟨rfl, hb⟩))
    have HI1 := A_ (HI.out.call hb)
    have d1' : w1.cell? ⟨w.heap.size + 1, 1, none⟩ = some (.int .i64 ((prefW g x : Nat) : Int)) := blk_cell HI1.out.2.1 1
    have z1' : w1.frozen? ⟨w.heap.size + 1, 1, none⟩ = false := blk_frozen HI1.out.2.1 1
    clear c0 c1 z0 z1 d0 d1
    go_region
    all_goals
     go_wp2
     go_roundw
     case rel =>
      refine ⟨x + 1, by omega, by go_num, ?_⟩
      ·exact ⟨(HI1.out.set HG.out (by omega) (by rw [show shl .i64 1 (x : Int) = wrap64 (2 ^ x) from by unfold shl; rw [min_bits (by omega), Int.one_mul, i64_w]])).drew⟩
     case measure => simp [intOf]; omega
  ·obtain rfl : x = M := by omega
   go_wp2
   exact bodyPost_ret (v := .agg #[.int .i64 (N : Int), .int .i64 ((prefW g x : Nat) : Int)]) (by simp [results, Try.results42, go_sem, c0, c1, d0, d1]) rfl ⟨rfl, (HI.out.2.2.setCell (p := ⟨w.heap.size, 0, none⟩) (Nat.le_refl _) _).setCell (p := ⟨w.heap.size, 1, none⟩) (Nat.le_refl _) _⟩
def impl_Table_restrict.f (a0_0 : Int) (a0_1 : Int) (a1 : Int) (a2 : Int) : Option (Int × Int) :=
 if 1 ≤ a0_0 ∧ a0_0 ≤ 5 ∧ 0 ≤ a0_1 ∧ a0_1 < 4294967296 ∧ 0 ≤ a1 ∧ a1 < a0_0 ∧ 0 ≤ a2 ∧ a2 ≤ 1 then some (a0_0 - 1, ((prefW (fun x => a0_1.toNat.testBit (ins x a1.toNat a2.toNat)) (2 ^ (a0_0.toNat - 1)) : Nat) : Int)) else none
theorem impl_Table_restrict.spread_ins : ∀ x : Nat, x < 16 → ∀ i : Nat, i < 5 → ∀ b : Nat, b < 2 → (impl_spread.f (x : Int) (i : Int) (b : Int) = some ((ins x i b : Nat) : Int) ∧ ins x i b < 32) :=
 allB_dec3 (P := fun x i b => impl_spread.f (x : Int) (i : Int) (b : Int) = some ((ins x i b : Nat) : Int) ∧ ins x i b < 32) (by decide +kernel)
theorem impl_Table_restrict.at_bit {n v y : Nat} (hv : v < 2 ^ 63) (hy : y ≤ 63) : impl_Table_at.f (n : Int) (v : Int) (y : Int) = some (((v.testBit y).toNat : Nat) : Int) := by
 unfold impl_Table_at.f
 rw [if_pos (Int.natCast_nonneg y), bit_nat hv (by omega)]
theorem impl_Table_restrict.mk (n v i b : Nat) (h1 : 1 ≤ n) (hn : n ≤ 5) (hv : v < 4294967296) (hi : i < n) (hb : b ≤ 1) (F I B : Nat) (w : World) (hF : F < w.heap.size) (hI : I < w.heap.size) (hB : B < w.heap.size)
  (f0 : w.cell? ⟨F, 0, none⟩ = some (.int .i64 (n : Int))) (f1 : w.cell? ⟨F, 1, none⟩ = some (.int .i64 (v : Int))) (fi : w.cell? ⟨I, 0, none⟩ = some (.int .i64 (i : Int))) (fb : w.cell? ⟨B, 0, none⟩ = some (.int .i64 (b : Int))) :
  Calls Try.prog 42 #[.int .i64 (((n - 1 : Nat) : Nat) : Int), .func (.func 77) #[] #[.pointer (some ⟨F, 0, none⟩), .pointer (some ⟨I, 0, none⟩), .pointer (some ⟨B, 0, none⟩)]] w fun e w' => e = .returned (.agg #[.int .i64 ((n - 1 : Nat) : Int), .int .i64 ((prefW (fun x => v.testBit (ins x i b)) (2 ^ (n - 1)) : Nat) : Int)]) ∧ Below w.heap.size w w' := by
 have h16 : 2 ^ (n - 1) ≤ 16 := by
  have := Nat.pow_le_pow_right (show 0 < 2 by decide) (show n - 1 ≤ 4 by omega)
  simpa using this
 have e10 : wrap64 ((2 : Int) ^ (n - 1)) = ((2 ^ (n - 1) : Nat) : Int) := by
  have : ((2 : Int) ^ (n - 1)) = ((2 ^ (n - 1) : Nat) : Int) := by push_cast; rfl
  rw [this]
  obtain ⟨P, hP⟩ : ∃ P, P = 2 ^ (n - 1) := ⟨_, rfl⟩
  rw [← hP] at h16 ⊢
  exact w64 (by omega) (by omega)
 refine impl_Table_restrict.aux (n - 1) (2 ^ (n - 1)) (by omega) (by omega) e10 _ F I B w (fun x W hx hb' => ?_)
 obtain ⟨hs, hy⟩ := impl_Table_restrict.spread_ins x (by omega) i (by omega) b (by omega)
 have hc := impl_Table_restrict.clo n v i b x ((ins x i b : Nat) : Int) (((v.testBit (ins x i b)).toNat : Nat) : Int) F I B W (Nat.lt_of_lt_of_le hF hb'.size) (Nat.lt_of_lt_of_le hI hb'.size) (Nat.lt_of_lt_of_le hB hb'.size)
  ((hb'.cell (p := ⟨F, 0, none⟩) hF).trans f0) ((hb'.cell (p := ⟨F, 1, none⟩) hF).trans f1) ((hb'.cell (p := ⟨I, 0, none⟩) hI).trans fi) ((hb'.cell (p := ⟨B, 0, none⟩) hB).trans fb) hs (impl_Table_restrict.at_bit (by omega) (by omega))
 rw [toNat_beq1] at hc
 exact hc
set_option maxHeartbeats 1600000 in
theorem impl_Table_restrict.nat (n v i b m : Nat) (h1 : 1 ≤ n) (hn : n ≤ 5) (hv : v < 4294967296) (hi : i < n) (hb : b ≤ 1) (w : World) (e1 : (n : Int) - 1 = (m : Int)) (hm : n - 1 = m) :
  Calls Try.prog 67 #[.agg #[.int .i64 (n : Int), .int .i64 (v : Int)], .int .i64 (i : Int), .int .i64 (b : Int)] w fun e w' => e = .returned (.agg #[.int .i64 (m : Int), .int .i64 ((prefW (fun x => v.testBit (ins x i b)) (2 ^ m) : Nat) : Int)]) ∧ Below w.heap.size w w' := by
 have huT := Try.underlying25
 have HC := A_ (impl_Table_restrict.mk n v i b h1 hn hv hi hb w.heap.size (w.heap.size + 1) (w.heap.size + 2) ((((w.alloc (.cells #[.int .i64 (n : Int), .int .i64 (v : Int)] 25)).alloc (.cells #[.int .i64 (i : Int)] 3)).alloc (.cells #[.int .i64 (b : Int)] 3)).alloc (.cells #[.int .i64 0, .int .i64 0] 25)) (by simp; omega) (by simp) (by simp) (by go_simp) (by go_simp) (by go_simp) (by go_simp))
 rw [hm] at HC
 have HR : Aside0 (((((w.alloc (.cells #[.int .i64 (n : Int), .int .i64 (v : Int)] 25)).alloc (.cells #[.int .i64 (i : Int)] 3)).alloc (.cells #[.int .i64 (b : Int)] 3)).alloc (.cells #[.int .i64 0, .int .i64 0] 25)).heap[w.heap.size + 1 + 1 + 1]? = some (.cells #[.int .i64 0, .int .i64 0] 25 (0, 0))) := ⟨by simpa using blk_new (((w.alloc (.cells #[.int .i64 (n : Int), .int .i64 (v : Int)] 25)).alloc (.cells #[.int .i64 (i : Int)] 3)).alloc (.cells #[.int .i64 (b : Int)] 3)) (.cells #[.int .i64 0, .int .i64 0] 25)⟩
 have HB : Aside0 (Below w.heap.size w ((((w.alloc (.cells #[.int .i64 (n : Int), .int .i64 (v : Int)] 25)).alloc (.cells #[.int .i64 (i : Int)] 3)).alloc (.cells #[.int .i64 (b : Int)] 3)).alloc (.cells #[.int .i64 0, .int .i64 0] 25))) := ⟨((((Below.refl _ _).alloc (Nat.le_refl _) _).alloc (by simp) _).alloc (by simp; omega) _).alloc (by simp; omega) _⟩
 clear hm hi hv
 go_enter Try.func67, Try.ntmps67
 go_wp2_with (first | (go_at_call 42; (with_reducible refine HC.out.mono ?_); rintro e w1 ⟨rfl, hb1⟩; have RB := A_ (blk_below HR.out hb1); have BB := A_ (HB.out.trans (hb1.mono HB.out.size)); clear hb1; have r0 : w1.cell? ⟨w.heap.size + 1 + 1 + 1, 0, none⟩ = some (.int .i64 0) := blk_cell RB.out 0; have r1 : w1.cell? ⟨w.heap.size + 1 + 1 + 1, 1, none⟩ = some (.int .i64 0) := blk_cell RB.out 1; have z0 := blk_frozen RB.out 0; have z1 := blk_frozen RB.out 1))
 exact bodyPost_ret (v := .agg #[.int .i64 (m : Int), .int .i64 ((prefW (fun x => v.testBit (ins x i b)) (2 ^ m) : Nat) : Int)]) (by simp [results, Try.results67, go_sem, r0, r1]) rfl ⟨rfl, (BB.out.setCell (p := ⟨w.heap.size + 1 + 1 + 1, 0, none⟩) (by show w.heap.size ≤ w.heap.size + 1 + 1 + 1; omega) _).setCell (p := ⟨w.heap.size + 1 + 1 + 1, 1, none⟩) (by show w.heap.size ≤ w.heap.size + 1 + 1 + 1; omega) _⟩
theorem impl_Table_restrict.calls (a0_0 : Int) (a0_1 : Int) (a1 : Int) (a2 : Int) (r1 : Int) (r2 : Int) (w : World) (h : impl_Table_restrict.f a0_0 a0_1 a1 a2 = some (r1, r2)) :
  Calls Try.prog 67 #[.agg #[.int .i64 a0_0, .int .i64 a0_1], .int .i64 a1, .int .i64 a2] w fun e w' => e = .returned (.agg #[.int .i64 r1, .int .i64 r2]) ∧ Below w.heap.size w w' := by
 unfold impl_Table_restrict.f at h
 by_cases hc : 1 ≤ a0_0 ∧ a0_0 ≤ 5 ∧ 0 ≤ a0_1 ∧ a0_1 < 4294967296 ∧ 0 ≤ a1 ∧ a1 < a0_0 ∧ 0 ≤ a2 ∧ a2 ≤ 1
 ·rw [if_pos hc] at h
  obtain ⟨c1, c2, c3, c4, c5, c6, c7, c8⟩ := hc
  obtain ⟨n, rfl⟩ := nat_of (show 0 ≤ a0_0 by omega)
  obtain ⟨v, rfl⟩ := nat_of c3
  obtain ⟨i, rfl⟩ := nat_of c5
  obtain ⟨b, rfl⟩ := nat_of c7
  have h2 := Option.some.inj h
  simp only [Prod.mk.injEq, Int.toNat_natCast] at h2
  obtain ⟨rfl, rfl⟩ := h2
  have e : ((n : Int) - 1) = ((n - 1 : Nat) : Int) := by omega
  rw [e]
  exact impl_Table_restrict.nat n v i b (n - 1) (by omega) (by omega) (by omega) (by omega) (by omega) w e rfl
 ·rw [if_neg hc] at h; cases h
end Go.Proofs.Ytloekoepknfodaa.Print
namespace Go.Proofs.Ytloekoepknfodaa.Print
open Go.RowKit Go.Proofs.YtloekoepknfodaaW.PrintWords Go.Proofs.YtloekoepknfodaaW.PrintLast Go.Proofs.YtloekoepknfodaaW.PrintMore
attribute [local go_sem] max2_int min2_int max_two min_two max_three min_three max_four min_four   -- for this text's walks alone
set_option linter.unusedVariables false
set_option linter.unusedSimpArgs false
open Go.Proofs.Ytloekoepknfodaa.M
def slices_Repeat_int_int.f (l0 : List Int) (a1 : Int) : Option (List Int) :=
 if l0.length = 1 ∧ (a1 = 0 ∨ a1 = 1 ∨ a1 = 2 ∨ a1 = 3 ∨ a1 = 4 ∨ a1 = 16 ∨ a1 = 256) then some (List.replicate a1.toNat (rd l0 0)) else none
theorem slices_Repeat_int_int.puts {e base g n cap : Nat} {ok : Nat → Prop} : ∀ (vs : List Int) (o : Nat) (W : World) (xs : List Int), (Kd.int .i64).R e W base ok (.slice (some ⟨g, 0, none⟩) n cap) xs → o + vs.length ≤ xs.length →
  (Kd.int .i64).R e (W.setCells g o (vs.map (Value.int .i64))) base ok (.slice (some ⟨g, 0, none⟩) n cap) (xs.take o ++ vs ++ xs.drop (o + vs.length))
 | [], o, W, xs, h, hl => by simpa [World.setCells] using h
 | v :: r, o, W, xs, h, hl => by
  have h1 := Kd.R_putn h (o : Int) v
  rw [Int.toNat_natCast] at h1
  have h2 := slices_Repeat_int_int.puts r (o + 1) _ _ h1 (by rw [List.length_set]; simp at hl; omega)
  rw [List.map_cons, World.setCells]
  have e1 : (xs.set o v).take (o + 1) ++ r ++ (xs.set o v).drop (o + 1 + r.length) = xs.take o ++ (v :: r) ++ xs.drop (o + (v :: r).length) := by
   simp only [List.length_cons] at hl ⊢
   rw [List.drop_set_of_lt (by omega), List.take_add_one, List.take_set_of_le (by omega)]
   simp [show o < xs.length by omega, show o + 1 + r.length = o + (r.length + 1) by omega]
  rw [← e1]
  exact h2
theorem slices_Repeat_int_int.mul (N : Int) (h : N = 1 ∨ N = 2 ∨ N = 3 ∨ N = 4 ∨ N = 16 ∨ N = 256) : bits_Mul.f 1 N = some (0, N) := by
 rcases h with rfl | rfl | rfl | rfl | rfl | rfl <;> decide +kernel
theorem slices_Repeat_int_int.size1 : (Try.prog.info? 3).map (·.size) = some 1 := by
 obtain ⟨i, hi, he⟩ := Option.map_eq_some_iff.1 info3
 simp only [Prod.mk.injEq] at he
 rw [hi, Option.map_some, he.2.1]
theorem slices_Repeat_int_int.cp {base g n cap : Nat} {xs : List Int} {W : World} (h : (Kd.int .i64).R 3 W base (fun _ => True) (.slice (some ⟨g, 0, none⟩) n cap) xs) (ys : List Int) (o dl dc : Nat) (a : Addr) (sl sc : Nat) (hk : ys.length = Nat.min sl dl) (ho : o + dl ≤ xs.length)
  (hs : ∀ j, j < ys.length → W.cell? (a.add j) = some (.int .i64 (ys.getD j 0))) :
  (Builtin.copy_ #[27, 27] 3 #[.slice (some ⟨g, o, none⟩) dl dc, .slice (some a) sl sc]).run Try.prog W = .ok (.int .i64 (ys.length : Int)) (W.setCells g o (ys.map (Value.int .i64))) ∧
   (Kd.int .i64).R 3 (W.setCells g o (ys.map (Value.int .i64))) base (fun _ => True) (.slice (some ⟨g, 0, none⟩) n cap) (xs.take o ++ ys ++ xs.drop (o + ys.length)) := by
 have hkd : ys.length ≤ dl := by rw [hk]; exact Nat.min_le_right _ _
 have hn := (Kd.R_reads' h).1
 refine ⟨?_, slices_Repeat_int_int.puts ys o W xs h (by omega)⟩
 have hr := Go.run_copy_cells (P := Try.prog) W 27 27 3 3 g o dl dc a sl sc (ys.map (Value.int .i64)) Try.underlying27 slices_Repeat_int_int.size1 (by rw [List.length_map]; exact hk) ?_ ?_ ?_ ?_
 ·rw [hr, List.length_map]; rfl
 ·intro j v hv
  rw [List.getElem?_map] at hv
  obtain ⟨q, hq, rfl⟩ := Option.map_eq_some_iff.1 hv
  have hj := (List.getElem?_eq_some_iff.1 hq).1
  rw [hs j hj, List.getD_eq_getElem?_getD, hq]; rfl
 ·intro j hj
  rw [List.length_map] at hj
  have := (Kd.R_celln 0 h ((o + j : Nat) : Int) (by omega) (by omega)).1
  rw [Int.toNat_natCast] at this
  rw [this]; rfl
 ·intro j hj
  rw [List.length_map] at hj
  have := (Kd.R_celln 0 h ((o + j : Nat) : Int) (by omega) (by omega)).2
  rwa [Int.toNat_natCast] at this
 ·intro v hv
  obtain ⟨q, _, rfl⟩ := List.mem_map.1 hv
  rfl
theorem slices_Repeat_int_int.far {B g : Nat} {w W : World} (h : Below B w W) (hg : B ≤ g) : ∀ (vs : List Value) (o : Nat), Below B w (W.setCells g o vs)
 | vs, o => ⟨((setCells_same g vs o W).1).trans h.os, ((setCells_same g vs o W).2.1).trans h.tape, ((setCells_same g vs o W).2.2.1).trans h.output, by rw [(setCells_same g vs o W).2.2.2]; exact h.size, fun k hk => (setCells_far vs o k (by omega)).trans (h.block k hk)⟩
def slices_Repeat_int_int.L (y : Int) (N m : Nat) : List Int := List.replicate m y ++ List.replicate (N - m) 0
theorem slices_Repeat_int_int.L_len (y : Int) (N m : Nat) (h : m ≤ N) : (slices_Repeat_int_int.L y N m).length = N := by simp [slices_Repeat_int_int.L]; omega
theorem slices_Repeat_int_int.L_step (y : Int) (N m k : Nat) (h : m + k ≤ N) : (slices_Repeat_int_int.L y N m).take m ++ List.replicate k y ++ (slices_Repeat_int_int.L y N m).drop (m + k) = slices_Repeat_int_int.L y N (m + k) := by
 unfold slices_Repeat_int_int.L
 rw [List.take_left' (by simp), List.drop_append, List.drop_eq_nil_of_le (by simp), List.length_replicate, List.drop_replicate, ← List.replicate_append_replicate (n := m) (m := k)]
 simp
 omega
set_option maxHeartbeats 4000000 in
set_option maxRecDepth 100000 in
theorem slices_Repeat_int_int.nat (A0 : Option Addr) (c0 : Nat) (y : Int) (N : Nat) (hN : 1 ≤ N) (hN2 : N ≤ 256) (hm : bits_Mul.f 1 (N : Int) = some (0, (N : Int))) (w : World) (hr0 : Kd.C (Kd.int .i64) w A0 1 [y]) (hc0 : 1 ≤ c0) :
  Calls Try.prog 31 #[.slice A0 1 c0, .int .i64 (N : Int)] w fun e w' => ∃ v0_ : Value, e = .returned v0_ ∧ Kd.R (Kd.int .i64) 3 w' w.heap.size (fun _ => True) v0_ (List.replicate N y) ∧ Below w.heap.size w w' := by
 have hN0 : decide ((N : Int) < 0) = false := decide_eq_false (by omega)
 have e1 : (N : Int) % 18446744073709551616 = (N : Int) := by omega
 have e2 : decide ((N : Int) > 9223372036854775807) = false := decide_eq_false (by omega)
 have e3 : decide (9223372036854775807 < (N : Int)) = false := decide_eq_false (by omega)
 have e4 : wrap64 (N : Int) = (N : Int) := w64 (by omega) (by omega)
 have e5 : Go.IntKind.i64.wrap (N : Int) = (N : Int) := by rw [i64_w]; exact e4
 obtain ⟨ad, ea, c1⟩ := Kd.at_int hr0 0 (by omega) (by omega)
 subst ea
 have HY : Aside0 (w.cell? (ad.add 0) = some (.int .i64 y)) := ⟨by simpa [rd] using c1⟩
 have HM := A_ hm; clear hr0 hc0 hm c1
 go_enter Try.func31, Try.ntmps31
 go_wp2_with (first | (go_at_call 62; (with_reducible refine (bits_Mul.calls _ _ _ _ _ HM.out).mono ?_); rintro e w' ⟨rfl, ⟨nd, rfl⟩⟩) | ((with_reducible refine gate_dst (N := 30) rfl ?_); refine Kd.R_make (w0 := w) (Kd.int .i64) w.heap.size 3 rfl (N := 30) rfl 27 _ _ rfl (N : Int) rfl rfl Try.underlying27 (.int .i64 0) 8 info3 rfl (by decide) (by omega) 0 (ok := fun _ => True) (okp := fun _ => True) rfl (fun _ hk => hk) trivial (by omega) (by omega) (pw_below_drewN (Below.refl _ _) _) (by simp) ?_; intro v4 w4 ho hb hg_ hnew_; clear hg_ hnew_; rw [Int.toNat_natCast] at ho; obtain ⟨gr, cap, hv4, hgb, hgl, _⟩ := Kd.R_form ho (by rw [List.length_replicate]; omega); have hv5 : v4 = .slice (some ⟨gr, 0, none⟩) N cap := (by rw [hv4]; simp); subst hv5; clear hv4; have hcap := (Kd.R_reads' ho).2.1; obtain ⟨hcp, ho5⟩ := slices_Repeat_int_int.cp ho [y] 0 N cap ad 1 c0 (by simp [Nat.min_def]; omega) (by simp) (fun j hj => (by obtain rfl : j = 0 := (by simpa using hj); exact (hb.cell (p := ad.add 0) (World.block_lt_of_cell? w _ HY.out)).trans HY.out)); have hb5 := slices_Repeat_int_int.far hb hgb ([y].map (Value.int .i64)) 0; generalize w4.setCells gr 0 ([y].map (Value.int .i64)) = w5 at hcp ho5 hb5; have HO := A_ ho5; have HB := A_ hb5; clear ho ho5 hb hb5))
 clear hcp e1 e2 e3 e4 e5 hN0
 go_loopg [8] N (fun gg v8 wr => ∃ m : Nat, 1 ≤ m ∧ m ≤ N ∧ N - m ≤ gg ∧ v8 = .int .i64 (m : Int) ∧ Aside0 (Kd.R (Kd.int .i64) 3 wr w.heap.size (fun _ => True) (.slice (some ⟨gr, 0, none⟩) N cap) (slices_Repeat_int_int.L y N m)) ∧ Aside0 (Below w.heap.size w wr))
 case atStart => exact ⟨1, by omega, by omega, by omega, rfl, ⟨by have h := HO.out; simpa [slices_Repeat_int_int.L] using h⟩, HB⟩
 case round =>
  clear HO HB; obtain ⟨m, h1, hmN, hg, rfl, HO, HB⟩ := hrel
  by_cases hlt : m < N
  ·have hltz : (m : Int) < (N : Int) := by omega
   have hcm : ¬ cap = m := by omega
   have hcm2 : ¬ m = 0 := by omega
   obtain ⟨k, hk⟩ : ∃ k, k = Nat.min m (N - m) := ⟨_, rfl⟩
   have hk1 : k ≤ m := by rw [hk]; exact Nat.min_le_left _ _
   have hk2 : k ≤ N - m := by rw [hk]; exact Nat.min_le_right _ _
   have hk0 : 0 < k := by rw [hk]; exact Nat.lt_min.mpr ⟨by omega, by omega⟩
   have hcell : ∀ j, j < m → wr.cell? ((⟨gr, 0, none⟩ : Addr).add j) = some (.int .i64 y) := fun j hj => by
    have := (Kd.R_celln 0 HO.out (j : Int) (by omega) (by omega)).1
    rw [Int.toNat_natCast] at this
    rw [add_plain, this]
    simp [rdOf, slices_Repeat_int_int.L, List.getD_eq_getElem?_getD, List.getElem?_append_left, hj]
   have CP : ∀ W, Below wr.heap.size wr W → ((Builtin.copy_ #[27, 27] 3 #[.slice (some ⟨gr, m, none⟩) (N - m) (cap - m), .slice (some ⟨gr, 0, none⟩) m cap]).run Try.prog W = .ok (.int .i64 (k : Int)) (W.setCells gr m ((List.replicate k y).map (Value.int .i64))) ∧ (Kd.int .i64).R 3 (W.setCells gr m ((List.replicate k y).map (Value.int .i64))) w.heap.size (fun _ => True) (.slice (some ⟨gr, 0, none⟩) N cap) (slices_Repeat_int_int.L y N (m + k))) := fun W hb => by
    have h := slices_Repeat_int_int.cp (Kd.R_below HO.out hb) (List.replicate k y) m (N - m) (cap - m) ⟨gr, 0, none⟩ m cap (by rw [List.length_replicate]; exact hk) (by rw [slices_Repeat_int_int.L_len y N m hmN]; omega) (fun j hj => by
     rw [List.length_replicate] at hj
     rw [pw_cell_below hb (hcell j (by omega))]
     simp [List.getD_eq_getElem?_getD, hj])
    rw [List.length_replicate, slices_Repeat_int_int.L_step y N m k (by omega)] at h
    exact h
   have CPA := A_ CP
   have hc0 := (CP wr (Below.refl _ _)).1
   have hc1 := (CP wr.drew (below_drew (Below.refl _ _))).1
   have e6 : wrap64 ((m : Int) + (k : Int)) = ((m + k : Nat) : Int) := by rw [w64 (by omega) (by omega)]; push_cast; rfl
   have hKK := A_ hk; clear CP hcell hk
   go_wp2
   go_region
   all_goals
    go_wp2
    go_roundg (N - (m + k))
    case measure => omega
    case rel =>
     refine ⟨m + k, by omega, by omega, by omega, by push_cast; rfl, ⟨?_⟩, ⟨?_⟩⟩
     ·first | (have h := (CPA.out wr.drew (below_drew (Below.refl _ _))).2; simpa using h) | (have h := (CPA.out wr (Below.refl _ _)).2; simpa using h)
     ·exact slices_Repeat_int_int.far (by first | exact HB.out | exact below_drew HB.out) hgb _ _
  ·obtain rfl : m = N := by omega
   have hL : slices_Repeat_int_int.L y m m = List.replicate m y := by simp [slices_Repeat_int_int.L]
   rw [hL] at HO
   go_wp2
   go_ret
   exact ⟨_, rfl, HO.out, HB.out⟩
set_option maxHeartbeats 4000000 in
set_option maxRecDepth 100000 in
theorem slices_Repeat_int_int.zero (A0 : Option Addr) (c0 : Nat) (y : Int) (w : World) (hm : bits_Mul.f 1 0 = some (0, 0)) (hr0 : Kd.C (Kd.int .i64) w A0 1 [y]) (hc0 : 1 ≤ c0) :
  Calls Try.prog 31 #[.slice A0 1 c0, .int .i64 0] w fun e w' => ∃ v0_ : Value, e = .returned v0_ ∧ Kd.R (Kd.int .i64) 3 w' w.heap.size (fun _ => True) v0_ [] ∧ Below w.heap.size w w' := by
 obtain ⟨ad, ea, c1⟩ := Kd.at_int hr0 0 (by omega) (by omega)
 subst ea; have HM := A_ hm
 have CP : Aside0 (∀ (A : Option Addr) (cap : Nat) (W : World), (Builtin.copy_ #[27, 27] 3 #[.slice A 0 cap, .slice (some ad) 1 c0]).run Try.prog W = .ok (.int .i64 0) W) := ⟨fun A cap W => Go.run_copy_none (P := Try.prog) W 27 27 3 3 A (some ad) 0 cap 1 c0 Try.underlying27 slices_Repeat_int_int.size1 (by decide)⟩
 clear hr0 hc0 hm c1
 go_enter Try.func31, Try.ntmps31
 go_wp2_with (first | (go_at_call 62; (with_reducible refine (bits_Mul.calls _ _ _ _ _ HM.out).mono ?_); rintro e w' ⟨rfl, ⟨nd, rfl⟩⟩) | ((with_reducible refine gate_dst (N := 30) rfl ?_); refine Kd.R_make (w0 := w) (Kd.int .i64) w.heap.size 3 rfl (N := 30) rfl 27 _ _ rfl (0 : Int) rfl rfl Try.underlying27 (.int .i64 0) 8 info3 rfl (by decide) (by omega) 0 (ok := fun _ => True) (okp := fun _ => True) rfl (fun _ hk => hk) trivial (by omega) (by omega) (pw_below_drewN (Below.refl _ _) _) (by simp) ?_; intro v4 w4 ho hb hg_ hnew_; clear hg_ hnew_; obtain ⟨A, cap, hv4⟩ := Kd.R_slice ho; have hv5 : v4 = .slice A 0 cap := (by rw [hv4]; rfl); subst hv5; clear hv4; have hcp := CP.out A cap w4; have HO := A_ ho; have HB := A_ hb; clear ho hb))
 have HO0 : Aside0 ((Kd.int .i64).R 3 w4 w.heap.size (fun _ => True) (.slice A 0 cap) []) := HO
 clear HO hcp
 go_loopg [8] 0 (fun gg v8 wr => v8 = .int .i64 0 ∧ Aside0 ((Kd.int .i64).R 3 wr w.heap.size (fun _ => True) (.slice A 0 cap) []) ∧ Aside0 (Below w.heap.size w wr))
 case atStart => exact ⟨rfl, HO0, HB⟩
 case round =>
  clear HO0 HB; obtain ⟨rfl, HO, HB⟩ := hrel
  go_wp2
  go_ret
  exact ⟨_, rfl, HO.out, HB.out⟩
theorem slices_Repeat_int_int.calls (A0 : Option Addr) (c0 : Nat) (l0 : List Int) (a1 : Int) (r : List Int) (w : World) (hr0 : Kd.C (Kd.int .i64) w A0 l0.length l0) (hc0 : l0.length ≤ c0) (h : slices_Repeat_int_int.f l0 a1 = some r) :
  Calls Try.prog 31 #[.slice A0 l0.length c0, .int .i64 a1] w fun e w' => ∃ v0_ : Value, e = .returned v0_ ∧ Kd.R (Kd.int .i64) 3 w' w.heap.size (fun _ => True) v0_ r ∧ Below w.heap.size w w' := by
 unfold slices_Repeat_int_int.f at h
 by_cases hc : l0.length = 1 ∧ (a1 = 0 ∨ a1 = 1 ∨ a1 = 2 ∨ a1 = 3 ∨ a1 = 4 ∨ a1 = 16 ∨ a1 = 256)
 ·rw [if_pos hc] at h
  obtain ⟨hl, ha⟩ := hc
  have h := Option.some.inj h
  obtain ⟨y, rfl⟩ := List.length_eq_one_iff.1 hl
  by_cases h00 : a1 = 0
  ·subst h00
   rw [← h]
   exact slices_Repeat_int_int.zero A0 c0 y w (by decide +kernel) hr0 (by simpa using hc0)
  have ha : a1 = 1 ∨ a1 = 2 ∨ a1 = 3 ∨ a1 = 4 ∨ a1 = 16 ∨ a1 = 256 := by omega
  have hm := slices_Repeat_int_int.mul a1 ha
  obtain ⟨N, rfl⟩ := nat_of (x := a1) (by omega)
  rw [← h, Int.toNat_natCast]
  exact slices_Repeat_int_int.nat A0 c0 y N (by omega) (by omega) hm w hr0 (by simpa using hc0)
 ·rw [if_neg hc] at h; cases h
end Go.Proofs.Ytloekoepknfodaa.Print
namespace Go.Proofs.Ytloekoepknfodaa.Print
open Go.RowKit Go.Proofs.YtloekoepknfodaaW.PrintWords Go.Proofs.YtloekoepknfodaaW.PrintLast Go.Proofs.YtloekoepknfodaaW.PrintMore
attribute [local go_sem] max2_int min2_int max_two min_two max_three min_three max_four min_four   -- for this text's walks alone
set_option linter.unusedVariables false
set_option linter.unusedSimpArgs false
open Go.Proofs.Ytloekoepknfodaa.M
def slices_Clone_int_int.f (l0 : List Int) : Option (List Int) := if l0.length < 8796093022208 then some l0 else none
set_option maxHeartbeats 4000000 in
set_option maxRecDepth 100000 in
theorem slices_Clone_int_int.calls (A0 : Option Addr) (c0 : Nat) (l0 : List Int) (r : List Int) (w : World) (hr0 : Kd.C (Kd.int .i64) w A0 l0.length l0) (hc0 : l0.length ≤ c0) (h : slices_Clone_int_int.f l0 = some r) :
  Calls Try.prog 34 #[.slice A0 l0.length c0] w fun e w' => ∃ v0_ : Value, e = .returned v0_ ∧ Kd.R (Kd.int .i64) 3 w' w.heap.size (fun _ => True) v0_ r ∧ Below w.heap.size w w' := by
 unfold slices_Clone_int_int.f at h
 by_cases hl : l0.length < 8796093022208
 ·rw [if_pos hl] at h
  obtain rfl := Option.some.inj h
  have hE : ∀ W, (Go.binOp .eql 27 (.slice A0 l0.length c0) (.slice none 0 0)).run Try.prog W = .ok (.bool A0.isNone) W := fun W => Go.Lib.run_eql_slice_nil W _ _ A0 l0.length c0 0 0 Try.underlying27
  cases A0 with
  | none =>
   have hz : l0 = [] := by
    obtain ⟨_, _, h3⟩ := hr0
    cases l0 with
    | nil => rfl
    | cons x t => obtain ⟨ad, he, _⟩ := h3 (by simp); cases he
   subst hz
   have hE0 : ∀ W, (Go.binOp .eql 27 (.slice none 0 c0) (.slice none 0 0)).run Try.prog W = .ok (.bool true) W := hE
   clear hr0 h hl hE
   go_enter Try.func34, Try.ntmps34
   go_wp2_with (fail)
   go_ret
   exact ⟨_, rfl, Kd.R_nil _ _ _ _ _, Below.refl _ _⟩
  | some ad =>
   have HR := A_ hr0; have HL := A_ hl; clear hr0 h hl
   go_enter Try.func34, Try.ntmps34
   go_wp2_with (first | ((with_reducible refine gate_dst (N := 5) rfl ?_); refine Kd.R_lit (Kd.int .i64) _ 3 ?hg (N := 5) ?hd (xs := ([] : List Int)) (inner := []) (ok := fun _ => True) (okp := fun _ => True) ?hr ?hp (fun _ hk => hk) trivial (Below.refl _ _) (Nat.le_refl _) (by simp) ?_; (case hd => rfl); (case hg => rfl); (case hr => first | (go_simp; done) | (go_simp; rfl)); (case hp => exact (Reps.none _ _)); intro v126 w5 ho6 hb hg_ hnew_; clear hg_ hnew_; have HO := A_ ho6; have HB := A_ hb; clear ho6 hb) | ((with_reducible refine gate_builtin (b := .append) (xs := #[.tmp 5, .tmp 6]) rfl ?_); at_builtin; refine Kd.R_append_rows (Kd.int .i64) (w0 := w) w.heap.size rfl (.tmp 5) (.tmp 6) 27 3 (.int .i64 0) 8 rfl Try.underlying27 info3 rfl (by decide) (by omega) v126 [] l0 _ _ _ (fun _ => True) (fun _ => False) rfl rfl ?aO ?aR (fun _ _ h => h) (fun _ h => h.elim) ?aF ?aB ?aS ?aL ?_; (case aR => exact Kd.C_below HR.out HB.out); (case aB => exact HB.out); (case aF => exact (fun _ _ => trivial)); (case aO => exact HO.out); (case aS => exact HB.out.size); (case aL => have := HL.out; simp; omega); intro v138 w9 ho hb hg hat; have HO2 := A_ ho; have HB2 := A_ hb; clear ho hb hg hat))
   go_ret
   exact ⟨_, rfl, HO2.out, HB2.out⟩
 ·rw [if_neg hl] at h; cases h
end Go.Proofs.Ytloekoepknfodaa.Print
