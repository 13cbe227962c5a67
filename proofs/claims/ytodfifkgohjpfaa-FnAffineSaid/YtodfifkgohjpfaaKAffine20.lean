/- Several texts of this repo's programs in one: plain lemmas, or functions of the given program as plain Lean functions with proofs that their calls compute them. -/
import Derived.Test.YtodfifkgohjpfaaKAffine2
import Derived.Test.YtodfifkgohjpfaaKAffine18
import Derived.Test.YtodfifkgohjpfaaM29
namespace Go.Proofs.Ytodfifkgohjpfaa.Print
open Go.RowKit Go.Proofs.YtodfifkgohjpfaaW.PrintWords Go.Proofs.YtodfifkgohjpfaaW.PrintLast Go.Proofs.YtodfifkgohjpfaaW.PrintMore
attribute [local go_sem] max2_int min2_int max_two min_two max_three min_three max_four min_four   -- for this text's walks alone
set_option linter.unusedVariables false
set_option linter.unusedSimpArgs false
set_option maxHeartbeats 8000000
set_option maxRecDepth 100000
def spec_CountInvertible.l0 : Nat → Int → Int → Int → Option (Int)
 | 0, _, _, _ => none
 | k + 1, x0, x3, x4 => if x4 < x0 then (if 0 ≤ x0 then (if 0 ≤ x4 then (spec_CountInvertible.l0 k x0 (wrap64 (x3 * (wrap64 ((shl .i64 1 x0) - (shl .i64 1 x4))))) (wrap64 (x4 + 1))) else (none)) else (none)) else (some x3)
def spec_CountInvertible.f (k : Nat) (a0 : Int) : Option (Int) := (spec_l1In.f a0 0 5).bind fun t444 => (if t444 = true then (spec_CountInvertible.l0 k a0 1 0) else (some (-1)))
theorem spec_CountInvertible.mono_l : ∀ k, (∀ y0 y1 y2, LeO (spec_CountInvertible.l0 k y0 y1 y2) (spec_CountInvertible.l0 (k + 1) y0 y1 y2))
 | 0 => fun _ _ _ r h => by simp [spec_CountInvertible.l0] at h
 | k + 1 => by
  have ih0 := spec_CountInvertible.mono_l k
  ·intro y0 y1 y2
   unfold spec_CountInvertible.l0
   repeat' first
   | (with_reducible exact ih0 _ _ _)
   | (with_reducible exact LeO.refl _)
   | (with_reducible exact LeO.none _)
   | (with_reducible refine LeO.ite ?_ ?_)
   | (with_reducible refine LeO.bind ?_ (fun _ => ?_))
   | exact ih0 _ _ _
   | exact LeO.none _
   | refine LeO.ite ?_ ?_
   | refine LeO.bind ?_ (fun _ => ?_)
theorem spec_CountInvertible.mono : ∀ a0 k, LeO (spec_CountInvertible.f k a0) (spec_CountInvertible.f (k + 1) a0) := by
 intro a0 k
 have ih0 := spec_CountInvertible.mono_l k
 unfold spec_CountInvertible.f
 repeat' first
   | (with_reducible exact ih0 _ _ _)
   | (with_reducible exact LeO.refl _)
   | (with_reducible exact LeO.none _)
   | (with_reducible refine LeO.ite ?_ ?_)
   | (with_reducible refine LeO.bind ?_ (fun _ => ?_))
   | exact ih0 _ _ _
   | exact LeO.none _
   | refine LeO.ite ?_ ?_
   | refine LeO.bind ?_ (fun _ => ?_)
theorem spec_CountInvertible.calls (k : Nat) (a0 : Int) (r : Int) (w : World) (h : spec_CountInvertible.f k a0 = some r) :
  Calls Try.prog 32 #[.int .i64 a0] w fun e w' => e = .returned (.int .i64 r) ∧ Drawn0 w w' := by
 unfold spec_CountInvertible.f at h; have H := h
 clear h; replace H := Option.bind_eq_some_iff.mp H; obtain ⟨t444, A20, H⟩ := H
 replace H : (if t444 = true then (spec_CountInvertible.l0 k a0 1 0) else (some (-1))) = some r := H
 have A2 := M.A_ A20; clear A20
 by_cases c3 : t444 = true
 ·subst c3
  rw [if_pos rfl] at H; (try dsimp only at H)
  have H' := M.A_ H
  clear H
  go_enter Try.func32, Try.ntmps32
  go_wp2_with (first | (go_at_call 44; (with_reducible refine (spec_l1In.calls a0 0 5 true _ A2.out).mono ?_); rintro e w' ⟨rfl, ⟨nd, rfl⟩⟩; (try first | exact ⟨rfl, _, World.drewN_drewN _ _ _⟩ | exact ⟨rfl, _, Eq.trans (World.drewN_drewN _ _ _) (congrArg (World.drewN _) (Nat.add_assoc _ _ _))⟩)))
  repeat (go_quiet (first | (go_at_call 44; (with_reducible refine (spec_l1In.calls a0 0 5 true _ A2.out).mono ?_); rintro e w' ⟨rfl, ⟨nd, rfl⟩⟩; (try first | exact ⟨rfl, _, World.drewN_drewN _ _ _⟩ | exact ⟨rfl, _, Eq.trans (World.drewN_drewN _ _ _) (congrArg (World.drewN _) (Nat.add_assoc _ _ _))⟩))); try go_wp2_with (first | (go_at_call 44; (with_reducible refine (spec_l1In.calls a0 0 5 true _ A2.out).mono ?_); rintro e w' ⟨rfl, ⟨nd, rfl⟩⟩; (try first | exact ⟨rfl, _, World.drewN_drewN _ _ _⟩ | exact ⟨rfl, _, Eq.trans (World.drewN_drewN _ _ _) (congrArg (World.drewN _) (Nat.add_assoc _ _ _))⟩))))
  go_loopg [3, 4] k (fun kq v3 v4 w' => ∃ (x3_1 : Int) (x4_1 : Int), v3 = .int .i64 x3_1 ∧ v4 = .int .i64 x4_1 ∧ Aside0 (spec_CountInvertible.l0 kq a0 x3_1 x4_1 = some r) ∧ Aside0 (kq ≤ k) ∧ Drawn0 w w')
  case atStart => exact ⟨(1), (0), (by first | rfl | (simp; done) | (simp [*]; done)), (by first | rfl | (simp; done) | (simp [*]; done)), H', ⟨Nat.le_refl _⟩, by repeat (first | exact Drawn0.refl _ | apply Drawn0.step)⟩
  case round =>
   clear H'; (try clear p2); (try clear c3)
   obtain ⟨x3_1, x4_1, rfl, rfl, HA, HK1, ⟨m1, rfl⟩⟩ := hrel
   cases gk with
   | zero => exact absurd HA.out (by simp [spec_CountInvertible.l0])
   | succ k1 =>
    have H := HA.out
    clear HA
    simp only [spec_CountInvertible.l0] at H
    by_cases c4 : x4_1 < a0
    ·rw [if_pos c4] at H
     have c4b0 : decide (x4_1 < a0) = true := decide_eq_true c4
     clear c4
     by_cases c5 : 0 ≤ a0
     ·rw [if_pos c5] at H
      have c5b0 := eq_true c5
      have c5b1 : decide (0 ≤ a0) = true := decide_eq_true c5
      clear c5
      obtain ⟨ji6, hji6⟩ : ∃ j_ : Int, (shl .i64 1 a0) = j_ := ⟨_, rfl⟩
      replace H : (if 0 ≤ x4_1 then (spec_CountInvertible.l0 k1 a0 (wrap64 (x3_1 * (wrap64 ((ji6) - (shl .i64 1 x4_1))))) (wrap64 (x4_1 + 1))) else (none)) = some r := by first | (rw [hji6] at H; exact H) | (simp only [hji6] at H ⊢; exact H)
      have hji6_ : (IntKind.i64.wrap (1 * 2 ^ min a0.toNat 64)) = ji6 := hji6
      have hji6z : a0 ≤ 64 → (IntKind.i64.wrap (1 * 2 ^ a0.toNat)) = ji6 := shl_small hji6
      have hji6u : (IntKind.i64.wrap (2 ^ min a0.toNat 64)) = ji6 := by have h_ := hji6_; rw [Int.one_mul] at h_; exact h_
      have hji6v : a0 ≤ 64 → (IntKind.i64.wrap (2 ^ a0.toNat)) = ji6 := fun hle_ => by have h_ := hji6z hle_; rw [Int.one_mul] at h_; exact h_
      have hji6y : (wrap64 (1 * 2 ^ min a0.toNat 64)) = ji6 := (i64_w _).symm.trans hji6_
      have hji6x : a0 ≤ 64 → (wrap64 (1 * 2 ^ a0.toNat)) = ji6 := fun h_ => (i64_w _).symm.trans (hji6z h_)
      by_cases c7 : 0 ≤ x4_1
      ·rw [if_pos c7] at H
       have c7b0 := eq_true c7
       have c7b1 : decide (0 ≤ x4_1) = true := decide_eq_true c7
       clear c7
       obtain ⟨ji8, hji8⟩ : ∃ j_ : Int, (shl .i64 1 x4_1) = j_ := ⟨_, rfl⟩
       replace H : (spec_CountInvertible.l0 k1 a0 (wrap64 (x3_1 * (wrap64 ((ji6) - (ji8))))) (wrap64 (x4_1 + 1))) = some r := by first | (rw [hji8] at H; exact H) | (simp only [hji8] at H ⊢; exact H)
       have hji8_ : (IntKind.i64.wrap (1 * 2 ^ min x4_1.toNat 64)) = ji8 := hji8
       have hji8z : x4_1 ≤ 64 → (IntKind.i64.wrap (1 * 2 ^ x4_1.toNat)) = ji8 := shl_small hji8
       have hji8u : (IntKind.i64.wrap (2 ^ min x4_1.toNat 64)) = ji8 := by have h_ := hji8_; rw [Int.one_mul] at h_; exact h_
       have hji8v : x4_1 ≤ 64 → (IntKind.i64.wrap (2 ^ x4_1.toNat)) = ji8 := fun hle_ => by have h_ := hji8z hle_; rw [Int.one_mul] at h_; exact h_
       have hji8y : (wrap64 (1 * 2 ^ min x4_1.toNat 64)) = ji8 := (i64_w _).symm.trans hji8_
       have hji8x : x4_1 ≤ 64 → (wrap64 (1 * 2 ^ x4_1.toNat)) = ji8 := fun h_ => (i64_w _).symm.trans (hji8z h_)
       have H' := M.A_ H
       clear H
       go_wp2
       repeat (go_quiet (fail); try go_wp2)
       go_roundg k1
       case measure => have := HK1.out; omega
       case rel => exact ⟨(wrap64 (x3_1 * (wrap64 ((ji6) - (ji8))))), (wrap64 (x4_1 + 1)), (by first | rfl | (simp; done) | (simp only [← hji6, ← hji8] <;> (first | rfl | simp)) | (simp [*]; done)), (by first | rfl | (simp; done) | (simp [*]; done)), H', ⟨by have := HK1.out; omega⟩, by repeat (first | exact Drawn0.refl _ | apply Drawn0.step)⟩
      ·rw [if_neg c7] at H
       exact absurd H (by simp)
     ·rw [if_neg c5] at H
      exact absurd H (by simp)
    ·rw [if_neg c4] at H
     have c4b0 : decide (x4_1 < a0) = false := decide_eq_false c4
     clear c4
     obtain rfl := Option.some.inj H
     go_wp2
     repeat (go_quiet (fail); try go_wp2)
     go_ret
     exact ⟨by first | rfl | (simp; done) | (simp [*]; done), by repeat (first | exact Drawn0.refl _ | apply Drawn0.step)⟩
 ·replace c3 := Bool.eq_false_iff.mpr c3
  subst c3
  rw [if_neg (show ¬ (false = true) by decide)] at H; (try dsimp only at H)
  obtain rfl := Option.some.inj H
  go_enter Try.func32, Try.ntmps32
  go_wp2_with (first | (go_at_call 44; (with_reducible refine (spec_l1In.calls a0 0 5 false _ A2.out).mono ?_); rintro e w' ⟨rfl, ⟨nd, rfl⟩⟩; (try first | exact ⟨rfl, _, World.drewN_drewN _ _ _⟩ | exact ⟨rfl, _, Eq.trans (World.drewN_drewN _ _ _) (congrArg (World.drewN _) (Nat.add_assoc _ _ _))⟩)))
  repeat (go_quiet (first | (go_at_call 44; (with_reducible refine (spec_l1In.calls a0 0 5 false _ A2.out).mono ?_); rintro e w' ⟨rfl, ⟨nd, rfl⟩⟩; (try first | exact ⟨rfl, _, World.drewN_drewN _ _ _⟩ | exact ⟨rfl, _, Eq.trans (World.drewN_drewN _ _ _) (congrArg (World.drewN _) (Nat.add_assoc _ _ _))⟩))); try go_wp2_with (first | (go_at_call 44; (with_reducible refine (spec_l1In.calls a0 0 5 false _ A2.out).mono ?_); rintro e w' ⟨rfl, ⟨nd, rfl⟩⟩; (try first | exact ⟨rfl, _, World.drewN_drewN _ _ _⟩ | exact ⟨rfl, _, Eq.trans (World.drewN_drewN _ _ _) (congrArg (World.drewN _) (Nat.add_assoc _ _ _))⟩))))
  go_ret
  exact ⟨by first | rfl | (simp; done) | (simp [*]; done), by repeat (first | exact Drawn0.refl _ | apply Drawn0.step)⟩
def spec_l12Sign.f (k : Nat) (a0 : Int) : Option (Int) := (spec_l2Count.f k a0).bind fun t445 => (if (Int.tmod t445 2) = 1 then (some (-1)) else (some 1))
theorem spec_l12Sign.calls (k : Nat) (a0 : Int) (r : Int) (w : World) (h : spec_l12Sign.f k a0 = some r) :
  Calls Try.prog 73 #[.int .i64 a0] w fun e w' => e = .returned (.int .i64 r) ∧ Drawn0 w w' := by
 unfold spec_l12Sign.f at h; have H := h
 clear h; replace H := Option.bind_eq_some_iff.mp H; obtain ⟨t445, A20, H⟩ := H
 replace H : (if (Int.tmod t445 2) = 1 then (some (-1)) else (some 1)) = some r := H
 have A2 := M.A_ A20; clear A20
 by_cases c3 : (Int.tmod t445 2) = 1
 ·rw [if_pos c3] at H
  have c3b0 : ((Int.tmod t445 2) == 1) = true := beq_iff_eq.mpr c3
  have c3b1 : ((Int.tmod t445 2) != 1) = false := bne_eq_false_iff_eq.mpr c3
  clear c3
  obtain rfl := Option.some.inj H
  go_enter Try.func73, Try.ntmps73
  go_wp2_with (first | ((with_reducible refine gate_callee (f := 75) rfl ?_); refine goesL_ (some 4) rfl rfl Try.func75 (by kernel_rfl) rfl #[.int .i64 a0] rfl (by first | rfl | (simp only [M.mt, M.mc, M.mn, M.ld, M.lt]; rfl)) ?_; (with_reducible refine (spec_l2Count.calls k a0 t445 _ A2.out).mono ?_); rintro e w' ⟨rfl, ⟨nd, rfl⟩⟩; refine ⟨_, rfl, ?_⟩))
  go_ret
  exact ⟨by first | rfl | (simp; done) | (simp [*]; done), by repeat (first | exact Drawn0.refl _ | apply Drawn0.step)⟩
 ·rw [if_neg c3] at H
  have c3b0 : ((Int.tmod t445 2) == 1) = false := beq_eq_false_iff_ne.mpr c3
  have c3b1 : ((Int.tmod t445 2) != 1) = true := bne_iff_ne.mpr c3
  obtain rfl := Option.some.inj H
  go_enter Try.func73, Try.ntmps73
  go_wp2_with (first | ((with_reducible refine gate_callee (f := 75) rfl ?_); refine goesL_ (some 4) rfl rfl Try.func75 (by kernel_rfl) rfl #[.int .i64 a0] rfl (by first | rfl | (simp only [M.mt, M.mc, M.mn, M.ld, M.lt]; rfl)) ?_; (with_reducible refine (spec_l2Count.calls k a0 t445 _ A2.out).mono ?_); rintro e w' ⟨rfl, ⟨nd, rfl⟩⟩; refine ⟨_, rfl, ?_⟩))
  go_ret
  exact ⟨by first | rfl | (simp; done) | (simp [*]; done), by repeat (first | exact Drawn0.refl _ | apply Drawn0.step)⟩
mutual
def spec_SpectrumOf.l0 : Nat → List Int → Int → Int → Int → Option (List Int)
 | 0, _, _, _, _ => none
 | k + 1, x3, x4, x447000, x447001 => (spec_IsTable.f x447000 x447001).bind fun t450 => (if t450 = true then (if 0 ≤ x447000 then (spec_SpectrumOf.j1 k x3 x4 (decide (x4 < (shl .i64 1 x447000))) x447000 x447001) else (none)) else (spec_SpectrumOf.j1 k x3 x4 false x447000 x447001))
def spec_SpectrumOf.j1 : Nat → List Int → Int → Bool → Int → Int → Option (List Int)
 | 0, _, _, _, _, _ => none
 | k + 1, x3, x4, x16, x447000, x447001 => if x16 = true then (spec_SpectrumOf.l1 k x3 x4 0 0 x447000 x447001) else (some x3)
def spec_SpectrumOf.l1 : Nat → List Int → Int → Int → Int → Int → Int → Option (List Int)
 | 0, _, _, _, _, _, _ => none
 | k + 1, x3, x4, x5, x6, x447000, x447001 => if 0 ≤ x447000 then (if x6 < (shl .i64 1 x447000) then (if 0 ≤ x6 then ((spec_l12Sign.f k (Go.bits .and .i64 (shr .i64 x447001 x6) 1)).bind fun t451 => ((spec_l12Sign.f k (Go.bits .and .i64 x4 x6)).bind fun t452 => (spec_SpectrumOf.l1 k x3 x4 (wrap64 (x5 + (wrap64 (t451 * t452)))) (wrap64 (x6 + 1)) x447000 x447001))) else (none)) else (if x3.length < 17592186044416 then (spec_SpectrumOf.l0 k (x3 ++ [x5]) (wrap64 (x4 + 1)) x447000 x447001) else (none))) else (none)
end
def spec_SpectrumOf.f (k : Nat) (a0_0 : Int) (a0_1 : Int) : Option (List Int) := spec_SpectrumOf.l0 k (([] : List Int)) 0 a0_0 a0_1
theorem spec_SpectrumOf.calls (k : Nat) (a0_0 : Int) (a0_1 : Int) (r : List Int) (w : World) (h : spec_SpectrumOf.f k a0_0 a0_1 = some r) :
  Calls Try.prog 63 #[.agg #[.int .i64 a0_0, .int .i64 a0_1]] w fun e w' => ∃ v0_ : Value, e = .returned (v0_) ∧ Kd.R (Kd.int .i64) 3 w' w.heap.size (fun _ => True) v0_ r ∧ Below w.heap.size w w' := by
 have hu25 := Try.underlying25
 have HB := M.A_ (Below.refl w.heap.size w)
 have H : (spec_SpectrumOf.l0 k (([] : List Int)) 0 a0_0 a0_1) = some r := h
 clear h
 obtain ⟨y447, hy447⟩ : ∃ y_ : List Int, y_ = (([] : List Int)) := ⟨_, rfl⟩
 replace H : (spec_SpectrumOf.l0 k y447 0 a0_0 a0_1) = some r := by first | (rw [hy447]; with_reducible exact H) | (have H2_ := (Option.bind_some _ _).symm.trans H; rw [hy447]; with_reducible exact H2_) | (have H2_ := (Option.bind_some _ _).symm.trans H; with_reducible exact H2_) | with_reducible exact H | (rw [hy447]; exact H) | exact H
 have Ny447 := M.A_ hy447; clear hy447
 have H' := M.A_ H
 clear H
 go_enter Try.func63, Try.ntmps63
 go_wp2_with (first | ((with_reducible refine gate_dst (N := 1) rfl ?_); refine box_event ?hg (N := 1) ?hd (cs := #[.int .i64 a0_0, .int .i64 a0_1]) (t := 25) ?hr ?_; (case hd => rfl); (case hg => rfl); (case hr => first | (go_simp; done) | (go_simp; rfl)); intro gb446 hg w2 hbox hb; have n0_ := M.A_ (below_step (M.Lw HB) hb); have n1_ := M.A_ (hbox); have n2_ := M.A_ ((by rw [hg]; exact (below_size (M.Lw HB)) : w.heap.size ≤ gb446)); have n3_ := M.A_ ((by rw [hg]; exact (below_size (M.Lw HB)) : w.heap.size ≤ gb446)); clear HB; have HB := n0_; have BK446 := n1_; have GW446 := n2_; have GE446 := n3_; clear n0_ n1_ n2_ n3_; clear hb hbox hg) | ((with_reducible refine gate_dst (N := 7) rfl ?_); refine Kd.R_lit (Kd.int .i64) _ 3 ?hg (N := 7) ?hd (xs := ([] : List Int)) (inner := []) (ok := fun _ => True) (okp := fun _ => True) ?hr ?hp (fun _ hk => hk) trivial (Below.refl _ _) (Nat.le_refl _) (by simp) ?_; (case hd => rfl); (case hg => rfl); (case hr => first | (go_simp; done) | (go_simp; rfl)); (case hp => exact (Reps.none _ _)); intro v448 w3 ho4 hb hg_ hnew_; clear hg_ hnew_; (first | rw [← Ny447.out] at ho4 | (simp only [Int.reduceToNat] at ho4; rw [← Ny447.out] at ho4)); have n0_ := M.A_ (Kd.R_lower ho4 (below_size (M.Lw HB))); have n1_ := M.A_ (blk_below (M.Lb BK446) hb); have n2_ := M.A_ (below_step (M.Lw HB) hb); clear BK446; clear HB; have HO449 := n0_; have BK446 := n1_; have HB := n2_; clear n0_ n1_ n2_; clear hb ho4))
 go_loopg [3, 4] k (fun kq v3 v4 w' => ∃ (x3_1 : List Int) (x4_1 : Int), v4 = .int .i64 x4_1 ∧ Aside0 (spec_SpectrumOf.l0 kq x3_1 x4_1 a0_0 a0_1 = some r) ∧ Aside0 (kq ≤ k) ∧ Aside0 (Kd.R (Kd.int .i64) 3 w' w.heap.size (fun _ => True) v3 x3_1) ∧ Aside0 (w'.heap[gb446]? = some (.cells #[.int .i64 a0_0, .int .i64 a0_1] 25 (0, 0))) ∧ Aside0 (Below w.heap.size w w'))
 case atStart => exact ⟨(y447), (0), (by first | rfl | (simp; done) | (simp [*]; done)), H', ⟨Nat.le_refl _⟩, ⟨M.Lr HO449⟩, ⟨M.Lb BK446⟩, ⟨M.Lw HB⟩⟩
 case round =>
  clear H'; (try clear p2); obtain ⟨x3_1, x4_1, rfl, HA, HK1, HO_3, BK446, HB⟩ := hrel
  cases gk with
  | zero => exact absurd HA.out (by simp [spec_SpectrumOf.l0])
  | succ k1 =>
   have H := HA.out
   clear HA
   simp only [spec_SpectrumOf.l0] at H
   have HC5 := M.A_ H; clear H
   go_upto_region 3 with (fail)
   go_cut [16] (fun v16 wc => ∃ (kq : Nat) (x16_4 : Bool), v16 = .bool x16_4 ∧ Aside0 (spec_SpectrumOf.j1 kq x3_1 x4_1 x16_4 a0_0 a0_1 = some r) ∧ Aside0 (kq ≤ k1) ∧ Aside0 (Kd.R (Kd.int .i64) 3 wc w.heap.size (fun _ => True) u3 x3_1) ∧ Aside0 (wc.heap[gb446]? = some (.cells #[.int .i64 a0_0, .int .i64 a0_1] 25 (0, 0))) ∧ Aside0 (Below w.heap.size w wc))
   case first =>
    have H := HC5.out
    clear HC5; obtain ⟨t450, A6, H⟩ := M.ob_ H; (try dsimp only at H)
    by_cases c7 : t450 = true
    ·subst c7
     rw [if_pos rfl] at H; (try dsimp only at H)
     by_cases c8 : 0 ≤ a0_0
     ·rw [if_pos c8] at H
      have c8b0 := eq_true c8
      have c8b1 : decide (0 ≤ a0_0) = true := decide_eq_true c8
      clear c8
      obtain ⟨ji9, hji9⟩ : ∃ j_ : Int, (shl .i64 1 a0_0) = j_ := ⟨_, rfl⟩
      replace H : (spec_SpectrumOf.j1 k1 x3_1 x4_1 (decide (x4_1 < (ji9))) a0_0 a0_1) = some r := by first | (rw [hji9] at H; exact H) | (simp only [hji9] at H ⊢; exact H)
      (try rw [hji9] at A6)
      have hji9_ : (IntKind.i64.wrap (1 * 2 ^ min a0_0.toNat 64)) = ji9 := hji9
      have hji9z : a0_0 ≤ 64 → (IntKind.i64.wrap (1 * 2 ^ a0_0.toNat)) = ji9 := shl_small hji9
      have hji9u : (IntKind.i64.wrap (2 ^ min a0_0.toNat 64)) = ji9 := by have h_ := hji9_; rw [Int.one_mul] at h_; exact h_
      have hji9v : a0_0 ≤ 64 → (IntKind.i64.wrap (2 ^ a0_0.toNat)) = ji9 := fun hle_ => by have h_ := hji9z hle_; rw [Int.one_mul] at h_; exact h_
      have hji9y : (wrap64 (1 * 2 ^ min a0_0.toNat 64)) = ji9 := (i64_w _).symm.trans hji9_
      have hji9x : a0_0 ≤ 64 → (wrap64 (1 * 2 ^ a0_0.toNat)) = ji9 := fun h_ => (i64_w _).symm.trans (hji9z h_)
      have H' := M.A_ H
      clear H
      have hcz10_0 : wr.cell? ⟨gb446, 0, none⟩ = some (.int .i64 a0_0) := (blk_cell BK446.out 0).trans rfl
      have hcz10_1 : wr.cell? ⟨gb446, 1, none⟩ = some (.int .i64 a0_1) := (blk_cell BK446.out 1).trans rfl
      have hfz10_0 := blk_frozen BK446.out 0
      have hfz10_1 := blk_frozen BK446.out 1
      go_wp2_with (first | ((with_reducible refine gate_callee (f := 43) rfl ?_); refine goesL_ (some 9) rfl rfl Try.func43 (by kernel_rfl) rfl #[.agg #[.int .i64 a0_0, .int .i64 a0_1]] rfl (by first | rfl | (simp only [M.mt, M.mc, M.mn, M.ld, M.lt]; rfl)) ?_; (with_reducible refine (spec_IsTable.calls a0_0 a0_1 true _ A6.out).mono ?_); rintro e w11 ⟨rfl, hb⟩; refine ⟨_, rfl, ?_⟩; have n0_ := M.A_ (Kd.R_below (M.Lr HO_3) hb); have n1_ := M.A_ (blk_below (M.Lb BK446) hb); have n2_ := M.A_ (below_step (M.Lw HB) hb); clear HO_3; clear BK446; clear HB; have HO_3 := n0_; have BK446 := n1_; have HB := n2_; clear n0_ n1_ n2_; (try clear hb); (try clear hb2); (try clear hk); (try clear hi); have hcz12_0 : w11.cell? ⟨gb446, 0, none⟩ = some (.int .i64 a0_0) := (blk_cell BK446.out 0).trans rfl; have hcz12_1 : w11.cell? ⟨gb446, 1, none⟩ = some (.int .i64 a0_1) := (blk_cell BK446.out 1).trans rfl; have hfz12_0 := blk_frozen BK446.out 0; have hfz12_1 := blk_frozen BK446.out 1))
      go_meet
      case rel => exact ⟨_, (decide (x4_1 < (ji9))), (by first | rfl | (simp; done) | (simp only [← hji9] <;> (first | rfl | simp)) | (simp [*]; done)), H', ⟨by have := HK1.out; first | omega | exact Nat.le_refl _⟩, ⟨M.Lr HO_3⟩, ⟨M.Lb BK446⟩, ⟨M.Lw HB⟩⟩
     ·rw [if_neg c8] at H
      exact absurd H (by simp)
    ·replace c7 := Bool.eq_false_iff.mpr c7
     subst c7
     rw [if_neg (show ¬ (false = true) by decide)] at H; (try dsimp only at H)
     have H' := M.A_ H
     clear H
     have hcz13_0 : wr.cell? ⟨gb446, 0, none⟩ = some (.int .i64 a0_0) := (blk_cell BK446.out 0).trans rfl
     have hcz13_1 : wr.cell? ⟨gb446, 1, none⟩ = some (.int .i64 a0_1) := (blk_cell BK446.out 1).trans rfl
     have hfz13_0 := blk_frozen BK446.out 0
     have hfz13_1 := blk_frozen BK446.out 1
     go_wp2_with (first | ((with_reducible refine gate_callee (f := 43) rfl ?_); refine goesL_ (some 9) rfl rfl Try.func43 (by kernel_rfl) rfl #[.agg #[.int .i64 a0_0, .int .i64 a0_1]] rfl (by first | rfl | (simp only [M.mt, M.mc, M.mn, M.ld, M.lt]; rfl)) ?_; (with_reducible refine (spec_IsTable.calls a0_0 a0_1 false _ A6.out).mono ?_); rintro e w14 ⟨rfl, hb⟩; refine ⟨_, rfl, ?_⟩; have n0_ := M.A_ (Kd.R_below (M.Lr HO_3) hb); have n1_ := M.A_ (blk_below (M.Lb BK446) hb); have n2_ := M.A_ (below_step (M.Lw HB) hb); clear HO_3; clear BK446; clear HB; have HO_3 := n0_; have BK446 := n1_; have HB := n2_; clear n0_ n1_ n2_; (try clear hb); (try clear hb2); (try clear hk); (try clear hi)))
     go_meet
     case rel => exact ⟨_, (false), (by first | rfl | (simp; done) | (simp [*]; done)), H', ⟨by have := HK1.out; first | omega | exact Nat.le_refl _⟩, ⟨M.Lr HO_3⟩, ⟨M.Lb BK446⟩, ⟨M.Lw HB⟩⟩
   case rest =>
    clear HC5; (try clear p2); (try clear c4); (try clear c6); (try clear p6); (try clear c7); (try clear c8); (try clear c8b0); (try clear c8b1); (try clear hcz10_0); (try clear hcz10_1); (try clear hcz12_0); (try clear hcz12_1); (try clear hcz13_0); (try clear hcz13_1); (try clear hfz10_0); (try clear hfz10_1); (try clear hfz12_0); (try clear hfz12_1); (try clear hfz13_0); (try clear hfz13_1); (try clear p2); obtain ⟨kq, x16_4, rfl, HA, HJ4, HO_3, BK446, HB⟩ := hcut
    cases kq with
    | zero => exact absurd HA.out (by simp [spec_SpectrumOf.j1])
    | succ kj4 =>
     have H := HA.out
     clear HA
     simp only [spec_SpectrumOf.j1] at H
     by_cases c15 : x16_4 = true
     ·subst c15
      rw [if_pos rfl] at H; (try dsimp only at H)
      have H' := M.A_ H
      clear H
      go_wp2
      go_loopg [5, 6] kj4 (fun kq v5 v6 w' => ∃ (x5_3 : Int) (x6_3 : Int), v5 = .int .i64 x5_3 ∧ v6 = .int .i64 x6_3 ∧ Aside0 (spec_SpectrumOf.l1 kq x3_1 x4_1 x5_3 x6_3 a0_0 a0_1 = some r) ∧ Aside0 (kq ≤ kj4) ∧ Aside0 (Kd.R (Kd.int .i64) 3 w' w.heap.size (fun _ => True) u3 x3_1) ∧ Aside0 (w'.heap[gb446]? = some (.cells #[.int .i64 a0_0, .int .i64 a0_1] 25 (0, 0))) ∧ Aside0 (Below w.heap.size w w'))
      case atStart => exact ⟨(0), (0), (by first | rfl | (simp; done) | (simp [*]; done)), (by first | rfl | (simp; done) | (simp [*]; done)), H', ⟨Nat.le_refl _⟩, ⟨M.Lr HO_3⟩, ⟨M.Lb BK446⟩, ⟨M.Lw HB⟩⟩
      case round =>
       clear H'; (try clear c1); (try clear p2); (try clear c4); (try clear c6); (try clear p6); (try clear c7); (try clear c8); (try clear c8b0); (try clear c8b1); (try clear c15); (try clear hcz10_0); (try clear hcz10_1); (try clear hcz12_0); (try clear hcz12_1); (try clear hcz13_0); (try clear hcz13_1); (try clear hfz10_0); (try clear hfz10_1); (try clear hfz12_0); (try clear hfz12_1); (try clear hfz13_0); (try clear hfz13_1); (try clear p2); (try clear p6); obtain ⟨x5_3, x6_3, rfl, rfl, HA, HK3, HO_3, BK446, HB⟩ := hrel
       cases gk with
       | zero => exact absurd HA.out (by simp [spec_SpectrumOf.l1])
       | succ k3 =>
        have H := HA.out
        clear HA
        simp only [spec_SpectrumOf.l1] at H
        by_cases c16 : 0 ≤ a0_0
        ·rw [if_pos c16] at H
         have c16b0 := eq_true c16
         have c16b1 : decide (0 ≤ a0_0) = true := decide_eq_true c16
         clear c16
         obtain ⟨ji17, hji17⟩ : ∃ j_ : Int, (shl .i64 1 a0_0) = j_ := ⟨_, rfl⟩
         replace H : (if x6_3 < (ji17) then (if 0 ≤ x6_3 then ((spec_l12Sign.f k3 (Go.bits .and .i64 (shr .i64 a0_1 x6_3) 1)).bind fun t451 => ((spec_l12Sign.f k3 (Go.bits .and .i64 x4_1 x6_3)).bind fun t452 => (spec_SpectrumOf.l1 k3 x3_1 x4_1 (wrap64 (x5_3 + (wrap64 (t451 * t452)))) (wrap64 (x6_3 + 1)) a0_0 a0_1))) else (none)) else (if x3_1.length < 17592186044416 then (spec_SpectrumOf.l0 k3 (x3_1 ++ [x5_3]) (wrap64 (x4_1 + 1)) a0_0 a0_1) else (none))) = some r := by first | (rw [hji17] at H; exact H) | (simp only [hji17] at H ⊢; exact H)
         have hji17_ : (IntKind.i64.wrap (1 * 2 ^ min a0_0.toNat 64)) = ji17 := hji17
         have hji17z : a0_0 ≤ 64 → (IntKind.i64.wrap (1 * 2 ^ a0_0.toNat)) = ji17 := shl_small hji17
         have hji17u : (IntKind.i64.wrap (2 ^ min a0_0.toNat 64)) = ji17 := by have h_ := hji17_; rw [Int.one_mul] at h_; exact h_
         have hji17v : a0_0 ≤ 64 → (IntKind.i64.wrap (2 ^ a0_0.toNat)) = ji17 := fun hle_ => by have h_ := hji17z hle_; rw [Int.one_mul] at h_; exact h_
         have hji17y : (wrap64 (1 * 2 ^ min a0_0.toNat 64)) = ji17 := (i64_w _).symm.trans hji17_
         have hji17x : a0_0 ≤ 64 → (wrap64 (1 * 2 ^ a0_0.toNat)) = ji17 := fun h_ => (i64_w _).symm.trans (hji17z h_)
         by_cases c18 : x6_3 < (ji17)
         ·rw [if_pos c18] at H
          have c18b0 : decide (x6_3 < (ji17)) = true := decide_eq_true c18
          clear c18
          by_cases c19 : 0 ≤ x6_3
          ·rw [if_pos c19] at H
           have c19b0 := eq_true c19
           have c19b1 : decide (0 ≤ x6_3) = true := decide_eq_true c19
           clear c19
           obtain ⟨ji20, hji20⟩ : ∃ j_ : Int, (shr .i64 a0_1 x6_3) = j_ := ⟨_, rfl⟩
           replace H : ((spec_l12Sign.f k3 (Go.bits .and .i64 (ji20) 1)).bind fun t451 => ((spec_l12Sign.f k3 (Go.bits .and .i64 x4_1 x6_3)).bind fun t452 => (spec_SpectrumOf.l1 k3 x3_1 x4_1 (wrap64 (x5_3 + (wrap64 (t451 * t452)))) (wrap64 (x6_3 + 1)) a0_0 a0_1))) = some r := by first | (rw [hji20] at H; exact H) | (simp only [hji20] at H ⊢; exact H)
           have hji20_ : (a0_1 / 2 ^ min x6_3.toNat 64) = ji20 := hji20
           have hji20z : x6_3 ≤ 64 → (a0_1 / 2 ^ x6_3.toNat) = ji20 := shr_small hji20
           obtain ⟨t451, A21, H⟩ := M.ob_ H; (try dsimp only at H); obtain ⟨t452, A22, H⟩ := M.ob_ H; (try dsimp only at H)
           have H' := M.A_ H
           clear H
           have hcz23_0 : wr.cell? ⟨gb446, 0, none⟩ = some (.int .i64 a0_0) := (blk_cell BK446.out 0).trans rfl
           have hcz23_1 : wr.cell? ⟨gb446, 1, none⟩ = some (.int .i64 a0_1) := (blk_cell BK446.out 1).trans rfl
           have hfz23_0 := blk_frozen BK446.out 0
           have hfz23_1 := blk_frozen BK446.out 1
           go_wp2_with (first | ((with_reducible refine gate_callee (f := 73) rfl ?_); refine goesL_ (some 32) rfl rfl Try.func73 (by kernel_rfl) rfl #[.int .i64 (Go.bits .and .i64 (ji20) 1)] rfl (by (try simp only [List.map_toArray, List.map_cons, List.map_nil]); first | done | (simp only [hji20]; rfl) | rfl | (simp only [List.length_drop, List.length_take]; rfl)) ?_; (with_reducible refine (spec_l12Sign.calls k3 (Go.bits .and .i64 (ji20) 1) t451 _ A21.out).mono ?_); rintro e w' ⟨rfl, ⟨nd, rfl⟩⟩; refine ⟨_, rfl, ?_⟩) | ((with_reducible refine gate_callee (f := 73) rfl ?_); refine goesL_ (some 36) rfl rfl Try.func73 (by kernel_rfl) rfl #[.int .i64 (Go.bits .and .i64 x4_1 x6_3)] rfl (by first | rfl | (simp only [M.mt, M.mc, M.mn, M.ld, M.lt]; rfl)) ?_; (with_reducible refine (spec_l12Sign.calls k3 (Go.bits .and .i64 x4_1 x6_3) t452 _ A22.out).mono ?_); rintro e w' ⟨rfl, ⟨nd, rfl⟩⟩; refine ⟨_, rfl, ?_⟩))
           go_roundg k3
           case measure => have := HK1.out; have := HJ4.out; have := HK3.out; omega
           case rel => exact ⟨(wrap64 (x5_3 + (wrap64 (t451 * t452)))), (wrap64 (x6_3 + 1)), (by first | rfl | (simp; done) | (simp [*]; done)), (by first | rfl | (simp; done) | (simp [*]; done)), H', ⟨by have := HK1.out; have := HJ4.out; have := HK3.out; omega⟩, ⟨M.Lr HO_3⟩, ⟨M.Lb BK446⟩, ⟨M.Lw HB⟩⟩
          ·rw [if_neg c19] at H
           exact absurd H (by simp)
         ·rw [if_neg c18] at H
          have c18b0 : decide (x6_3 < (ji17)) = false := decide_eq_false c18
          clear c18
          by_cases c24 : x3_1.length < 17592186044416
          ·rw [if_pos c24] at H; have LMc24 := M.A_ c24; clear c24
           obtain ⟨y453, hy453⟩ : ∃ y_ : List Int, y_ = (x3_1 ++ [x5_3]) := ⟨_, rfl⟩
           replace H : (spec_SpectrumOf.l0 k3 y453 (wrap64 (x4_1 + 1)) a0_0 a0_1) = some r := by first | (rw [hy453]; with_reducible exact H) | (have H2_ := (Option.bind_some _ _).symm.trans H; rw [hy453]; with_reducible exact H2_) | (have H2_ := (Option.bind_some _ _).symm.trans H; with_reducible exact H2_) | with_reducible exact H | (rw [hy453]; exact H) | exact H
           have Ny453 := M.A_ hy453; clear hy453
           have H' := M.A_ H
           clear H
           have hcz25_0 : wr.cell? ⟨gb446, 0, none⟩ = some (.int .i64 a0_0) := (blk_cell BK446.out 0).trans rfl
           have hcz25_1 : wr.cell? ⟨gb446, 1, none⟩ = some (.int .i64 a0_1) := (blk_cell BK446.out 1).trans rfl
           have hfz25_0 := blk_frozen BK446.out 0
           have hfz25_1 := blk_frozen BK446.out 1
           go_wp2_with (first | ((with_reducible refine gate_builtin (b := .append) (xs := #[.tmp 39, .tmp 41]) rfl ?_); at_builtin; refine Kd.R_append (Kd.int .i64) (w0 := w) w.heap.size rfl (.tmp 39) (.tmp 41) 26 3 (.int .i64 0) 8 rfl Try.underlying26 info3 rfl (by decide) (by omega) u3 x3_1 x5_3 [.int .i64 x5_3] (fun _ => True) (fun _ => False) rfl rfl ?aP (fun _ hk => hk.elim) ?aF ?aO ?aB ?aS ?aL ?_; (case aP => exact rfl); (case aB => exact (M.Lw HB)); (case aF => exact (fun _ _ => trivial)); (case aO => exact (M.Lr HO_3)); (case aS => exact (below_size (M.Lw HB))); (case aL => have := LMc24.out; omega); intro v454 w26 ho hb hg hat; rw [← Ny453.out] at ho; have n0_ := M.A_ (blk_grown (g := gb446) (o := .cells #[.int .i64 a0_0, .int .i64 a0_1] 25 (0, 0)) (M.Lb BK446) hg (Kd.R_ne HO_3.out BK446.out (by decide))); have n1_ := M.A_ (hb); have n2_ := M.A_ (ho); clear BK446; clear HB; clear HO_3; have BK446 := n0_; have HB := n1_; have HO455 := n2_; clear n0_ n1_ n2_; clear ho hb hg hat))
           go_roundg k3
           case measure => have := HK1.out; have := HJ4.out; have := HK3.out; omega
           case rel => exact ⟨(y453), (wrap64 (x4_1 + 1)), (by first | rfl | (simp; done) | (simp [*]; done)), H', ⟨by have := HK1.out; have := HJ4.out; have := HK3.out; omega⟩, ⟨M.Lr HO455⟩, ⟨M.Lb BK446⟩, ⟨M.Lw HB⟩⟩
          ·rw [if_neg c24] at H
           exact absurd H (by simp)
        ·rw [if_neg c16] at H
         exact absurd H (by simp)
     ·replace c15 := Bool.eq_false_iff.mpr c15
      subst c15
      rw [if_neg (show ¬ (false = true) by decide)] at H; (try dsimp only at H)
      obtain rfl := Option.some.inj H
      go_wp2
      go_ret
      exact ⟨_, by first | rfl | (simp [*, errW_none, errW_some] <;> rfl), by (with_reducible repeat (first | apply Kd.R_alloc | apply Kd.R_drewN | apply Kd.R_drew)); exact HO_3.out, M.Lw HB⟩
def spec_SpectrumProfile.l0 : Nat → List Int → List Int → Int → Option (List Int)
 | 0, _, _, _ => none
 | k + 1, x3, x4, x5 => if x5 < (x3.length : Int) then (if 0 ≤ x5 then (if 0 ≤ (mx (rd x3 x5) (wrap64 (-(rd x3 x5)))) then (if (mx (rd x3 x5) (wrap64 (-(rd x3 x5)))) < (x4.length : Int) then (spec_SpectrumProfile.l0 k x3 (x4.set ((mx (rd x3 x5) (wrap64 (-(rd x3 x5)))) : Int).toNat (wrap64 ((rd x4 (mx (rd x3 x5) (wrap64 (-(rd x3 x5))))) + 1))) (wrap64 (x5 + 1))) else (none)) else (none)) else (none)) else (some x4)
def spec_SpectrumProfile.f (k : Nat) (a0_0 : Int) (a0_1 : Int) : Option (List Int) := (spec_SpectrumOf.f k a0_0 a0_1).bind fun t457 => (if (t457.length : Int) = 0 then (some (([] : List Int))) else (if 0 ≤ (wrap64 ((t457.length : Int) + 1)) then (if (wrap64 ((t457.length : Int) + 1) : Int).toNat ≤ 35184372088832 then (spec_SpectrumProfile.l0 k t457 (List.replicate (wrap64 ((t457.length : Int) + 1) : Int).toNat 0) 0) else (none)) else (none)))
theorem spec_SpectrumProfile.calls (k : Nat) (a0_0 : Int) (a0_1 : Int) (r : List Int) (w : World) (h : spec_SpectrumProfile.f k a0_0 a0_1 = some r) :
  Calls Try.prog 33 #[.agg #[.int .i64 a0_0, .int .i64 a0_1]] w fun e w' => ∃ v0_ : Value, e = .returned (v0_) ∧ Kd.R (Kd.int .i64) 3 w' w.heap.size (fun _ => True) v0_ r ∧ Below w.heap.size w w' := by
 have hu25 := Try.underlying25
 have HB := M.A_ (Below.refl w.heap.size w)
 unfold spec_SpectrumProfile.f at h; have H := h
 clear h; obtain ⟨t457, A2, H⟩ := M.ob_ H; (try dsimp only at H)
 by_cases c3 : (t457.length : Int) = 0
 ·rw [if_pos c3] at H
  have c3b0 : ((t457.length : Int) == 0) = true := beq_iff_eq.mpr c3
  have c3b1 : ((t457.length : Int) != 0) = false := bne_eq_false_iff_eq.mpr c3
  clear c3
  obtain ⟨y460, hy460⟩ : ∃ y_ : List Int, y_ = (([] : List Int)) := ⟨_, rfl⟩
  replace H : (some y460) = some r := by first | (rw [hy460]; with_reducible exact H) | (have H2_ := (Option.bind_some _ _).symm.trans H; rw [hy460]; with_reducible exact H2_) | (have H2_ := (Option.bind_some _ _).symm.trans H; with_reducible exact H2_) | with_reducible exact H | (rw [hy460]; exact H) | exact H
  have Ny460 := M.A_ hy460; clear hy460
  obtain rfl := Option.some.inj H
  go_enter Try.func33, Try.ntmps33
  go_wp2_with (first | ((with_reducible refine gate_dst (N := 1) rfl ?_); refine box_event ?hg (N := 1) ?hd (cs := #[.int .i64 a0_0, .int .i64 a0_1]) (t := 25) ?hr ?_; (case hd => rfl); (case hg => rfl); (case hr => first | (go_simp; done) | (go_simp; rfl)); intro gb456 hg w4 hbox hb; have n0_ := M.A_ (below_step (M.Lw HB) hb); have n1_ := M.A_ (hbox); have n2_ := M.A_ ((by rw [hg]; exact (below_size (M.Lw HB)) : w.heap.size ≤ gb456)); have n3_ := M.A_ ((by rw [hg]; exact (below_size (M.Lw HB)) : w.heap.size ≤ gb456)); clear HB; have HB := n0_; have BK456 := n1_; have GW456 := n2_; have GE456 := n3_; clear n0_ n1_ n2_ n3_; clear hb hbox hg; have hcz5_0 : w4.cell? ⟨gb456, 0, none⟩ = some (.int .i64 a0_0) := (blk_cell BK456.out 0).trans rfl; have hcz5_1 : w4.cell? ⟨gb456, 1, none⟩ = some (.int .i64 a0_1) := (blk_cell BK456.out 1).trans rfl; have hfz5_0 := blk_frozen BK456.out 0; have hfz5_1 := blk_frozen BK456.out 1) | (go_at_call 63; (with_reducible refine (spec_SpectrumOf.calls k a0_0 a0_1 t457 _ A2.out).mono ?_); rintro e w6 ⟨v458, rfl, ho0, hb⟩; have n0_ := M.A_ (Kd.R_lower ho0 (below_size (M.Lw HB))); have n1_ := M.A_ (blk_below (M.Lb BK456) hb); have n2_ := M.A_ (below_step (M.Lw HB) hb); clear BK456; clear HB; have HO459 := n0_; have BK456 := n1_; have HB := n2_; clear n0_ n1_ n2_; (try clear hb); (try clear hb2); (try clear hk); (try clear hi); (try clear ho0); obtain ⟨Ao7, co7, eo7⟩ := Kd.R_slice HO459.out; subst eo7) | ((with_reducible refine gate_dst (N := 12) rfl ?_); refine Kd.R_lit (Kd.int .i64) _ 3 ?hg (N := 12) ?hd (xs := ([] : List Int)) (inner := []) (ok := fun _ => True) (okp := fun _ => True) ?hr ?hp (fun _ hk => hk) trivial (Below.refl _ _) (Nat.le_refl _) (by simp) ?_; (case hd => rfl); (case hg => rfl); (case hr => first | (go_simp; done) | (go_simp; rfl)); (case hp => exact (Reps.none _ _)); intro v461 w8 ho9 hb hg_ hnew_; clear hg_ hnew_; (first | rw [← Ny460.out] at ho9 | (simp only [Int.reduceToNat] at ho9; rw [← Ny460.out] at ho9)); have n0_ := M.A_ (Kd.R_elder' (M.Lr HO459) (Kd.R_base ho9) hb); have n1_ := M.A_ (Kd.R_lower (Kd.R_new' ho9 (Kd.R_lt (M.Lr HO459))) (below_size (M.Lw HB))); have n2_ := M.A_ (blk_below (M.Lb BK456) hb); have n3_ := M.A_ (below_step (M.Lw HB) hb); clear HO459; clear BK456; clear HB; have HO459 := n0_; have HO462 := n1_; have BK456 := n2_; have HB := n3_; clear n0_ n1_ n2_ n3_; clear hb ho9))
  repeat (go_quiet (first | ((with_reducible refine gate_dst (N := 1) rfl ?_); refine box_event ?hg (N := 1) ?hd (cs := #[.int .i64 a0_0, .int .i64 a0_1]) (t := 25) ?hr ?_; (case hd => rfl); (case hg => rfl); (case hr => first | (go_simp; done) | (go_simp; rfl)); intro gb456 hg w4 hbox hb; have n0_ := M.A_ (below_step (M.Lw HB) hb); have n1_ := M.A_ (hbox); have n2_ := M.A_ ((by rw [hg]; exact (below_size (M.Lw HB)) : w.heap.size ≤ gb456)); have n3_ := M.A_ ((by rw [hg]; exact (below_size (M.Lw HB)) : w.heap.size ≤ gb456)); clear HB; have HB := n0_; have BK456 := n1_; have GW456 := n2_; have GE456 := n3_; clear n0_ n1_ n2_ n3_; clear hb hbox hg; have hcz5_0 : w4.cell? ⟨gb456, 0, none⟩ = some (.int .i64 a0_0) := (blk_cell BK456.out 0).trans rfl; have hcz5_1 : w4.cell? ⟨gb456, 1, none⟩ = some (.int .i64 a0_1) := (blk_cell BK456.out 1).trans rfl; have hfz5_0 := blk_frozen BK456.out 0; have hfz5_1 := blk_frozen BK456.out 1) | (go_at_call 63; (with_reducible refine (spec_SpectrumOf.calls k a0_0 a0_1 t457 _ A2.out).mono ?_); rintro e w6 ⟨v458, rfl, ho0, hb⟩; have n0_ := M.A_ (Kd.R_lower ho0 (below_size (M.Lw HB))); have n1_ := M.A_ (blk_below (M.Lb BK456) hb); have n2_ := M.A_ (below_step (M.Lw HB) hb); clear BK456; clear HB; have HO459 := n0_; have BK456 := n1_; have HB := n2_; clear n0_ n1_ n2_; (try clear hb); (try clear hb2); (try clear hk); (try clear hi); (try clear ho0); obtain ⟨Ao7, co7, eo7⟩ := Kd.R_slice HO459.out; subst eo7) | ((with_reducible refine gate_dst (N := 12) rfl ?_); refine Kd.R_lit (Kd.int .i64) _ 3 ?hg (N := 12) ?hd (xs := ([] : List Int)) (inner := []) (ok := fun _ => True) (okp := fun _ => True) ?hr ?hp (fun _ hk => hk) trivial (Below.refl _ _) (Nat.le_refl _) (by simp) ?_; (case hd => rfl); (case hg => rfl); (case hr => first | (go_simp; done) | (go_simp; rfl)); (case hp => exact (Reps.none _ _)); intro v461 w8 ho9 hb hg_ hnew_; clear hg_ hnew_; (first | rw [← Ny460.out] at ho9 | (simp only [Int.reduceToNat] at ho9; rw [← Ny460.out] at ho9)); have n0_ := M.A_ (Kd.R_elder' (M.Lr HO459) (Kd.R_base ho9) hb); have n1_ := M.A_ (Kd.R_lower (Kd.R_new' ho9 (Kd.R_lt (M.Lr HO459))) (below_size (M.Lw HB))); have n2_ := M.A_ (blk_below (M.Lb BK456) hb); have n3_ := M.A_ (below_step (M.Lw HB) hb); clear HO459; clear BK456; clear HB; have HO459 := n0_; have HO462 := n1_; have BK456 := n2_; have HB := n3_; clear n0_ n1_ n2_ n3_; clear hb ho9)); try go_wp2_with (first | ((with_reducible refine gate_dst (N := 1) rfl ?_); refine box_event ?hg (N := 1) ?hd (cs := #[.int .i64 a0_0, .int .i64 a0_1]) (t := 25) ?hr ?_; (case hd => rfl); (case hg => rfl); (case hr => first | (go_simp; done) | (go_simp; rfl)); intro gb456 hg w4 hbox hb; have n0_ := M.A_ (below_step (M.Lw HB) hb); have n1_ := M.A_ (hbox); have n2_ := M.A_ ((by rw [hg]; exact (below_size (M.Lw HB)) : w.heap.size ≤ gb456)); have n3_ := M.A_ ((by rw [hg]; exact (below_size (M.Lw HB)) : w.heap.size ≤ gb456)); clear HB; have HB := n0_; have BK456 := n1_; have GW456 := n2_; have GE456 := n3_; clear n0_ n1_ n2_ n3_; clear hb hbox hg; have hcz5_0 : w4.cell? ⟨gb456, 0, none⟩ = some (.int .i64 a0_0) := (blk_cell BK456.out 0).trans rfl; have hcz5_1 : w4.cell? ⟨gb456, 1, none⟩ = some (.int .i64 a0_1) := (blk_cell BK456.out 1).trans rfl; have hfz5_0 := blk_frozen BK456.out 0; have hfz5_1 := blk_frozen BK456.out 1) | (go_at_call 63; (with_reducible refine (spec_SpectrumOf.calls k a0_0 a0_1 t457 _ A2.out).mono ?_); rintro e w6 ⟨v458, rfl, ho0, hb⟩; have n0_ := M.A_ (Kd.R_lower ho0 (below_size (M.Lw HB))); have n1_ := M.A_ (blk_below (M.Lb BK456) hb); have n2_ := M.A_ (below_step (M.Lw HB) hb); clear BK456; clear HB; have HO459 := n0_; have BK456 := n1_; have HB := n2_; clear n0_ n1_ n2_; (try clear hb); (try clear hb2); (try clear hk); (try clear hi); (try clear ho0); obtain ⟨Ao7, co7, eo7⟩ := Kd.R_slice HO459.out; subst eo7) | ((with_reducible refine gate_dst (N := 12) rfl ?_); refine Kd.R_lit (Kd.int .i64) _ 3 ?hg (N := 12) ?hd (xs := ([] : List Int)) (inner := []) (ok := fun _ => True) (okp := fun _ => True) ?hr ?hp (fun _ hk => hk) trivial (Below.refl _ _) (Nat.le_refl _) (by simp) ?_; (case hd => rfl); (case hg => rfl); (case hr => first | (go_simp; done) | (go_simp; rfl)); (case hp => exact (Reps.none _ _)); intro v461 w8 ho9 hb hg_ hnew_; clear hg_ hnew_; (first | rw [← Ny460.out] at ho9 | (simp only [Int.reduceToNat] at ho9; rw [← Ny460.out] at ho9)); have n0_ := M.A_ (Kd.R_elder' (M.Lr HO459) (Kd.R_base ho9) hb); have n1_ := M.A_ (Kd.R_lower (Kd.R_new' ho9 (Kd.R_lt (M.Lr HO459))) (below_size (M.Lw HB))); have n2_ := M.A_ (blk_below (M.Lb BK456) hb); have n3_ := M.A_ (below_step (M.Lw HB) hb); clear HO459; clear BK456; clear HB; have HO459 := n0_; have HO462 := n1_; have BK456 := n2_; have HB := n3_; clear n0_ n1_ n2_ n3_; clear hb ho9)))
  go_ret
  exact ⟨_, by first | rfl | (simp [*, errW_none, errW_some] <;> rfl), by (with_reducible repeat (first | apply Kd.R_alloc | apply Kd.R_drewN | apply Kd.R_drew)); exact Kd.R_mono HO462.out (fun _ hk => trivial), by repeat (first | (with_reducible first | exact HB.out | apply below_alloc | apply pw_below_drewN | apply below_drew1 | refine below_set ?_ GB24.out | refine below_set ?_ GE456.out) | exact HB.out)⟩
 ·rw [if_neg c3] at H
  have c3b0 : ((t457.length : Int) == 0) = false := beq_eq_false_iff_ne.mpr c3
  have c3b1 : ((t457.length : Int) != 0) = true := bne_iff_ne.mpr c3
  have c3b2 : ¬ (t457 = []) := fun h_ => c3 (by rw [h_]; rfl)
  obtain ⟨ji10, hji10⟩ : ∃ j_ : Int, (wrap64 ((t457.length : Int) + 1)) = j_ := ⟨_, rfl⟩
  replace H : (if 0 ≤ (ji10) then (if (ji10 : Int).toNat ≤ 35184372088832 then (spec_SpectrumProfile.l0 k t457 (List.replicate (ji10 : Int).toNat 0) 0) else (none)) else (none)) = some r := by first | (rw [hji10] at H; exact H) | (simp only [hji10] at H ⊢; exact H)
  (try rw [hji10] at A2)
  have hji10w : (IntKind.i64.wrap ((t457.length : Int) + 1)) = ji10 := (i64_w _).trans hji10
  by_cases c11 : 0 ≤ (ji10)
  ·rw [if_pos c11] at H
   have c11b0 := eq_true c11
   have c11b1 : decide (0 ≤ (ji10)) = true := decide_eq_true c11
   clear c11
   by_cases c12 : (ji10 : Int).toNat ≤ 35184372088832
   ·rw [if_pos c12] at H
    have c12b0 := eq_true c12
    have c12b1 : decide ((ji10 : Int).toNat ≤ 35184372088832) = true := decide_eq_true c12
    clear c12
    obtain ⟨y463, hy463⟩ : ∃ y_ : List Int, y_ = (List.replicate (ji10 : Int).toNat 0) := ⟨_, rfl⟩
    replace H : (spec_SpectrumProfile.l0 k t457 y463 0) = some r := by first | (rw [hy463]; with_reducible exact H) | (have H2_ := (Option.bind_some _ _).symm.trans H; rw [hy463]; with_reducible exact H2_) | (have H2_ := (Option.bind_some _ _).symm.trans H; with_reducible exact H2_) | with_reducible exact H | (rw [hy463]; exact H) | exact H
    have Ny463 := M.A_ hy463; clear hy463
    have H' := M.A_ H
    clear H
    go_enter Try.func33, Try.ntmps33
    go_wp2_with (first | ((with_reducible refine gate_dst (N := 1) rfl ?_); refine box_event ?hg (N := 1) ?hd (cs := #[.int .i64 a0_0, .int .i64 a0_1]) (t := 25) ?hr ?_; (case hd => rfl); (case hg => rfl); (case hr => first | (go_simp; done) | (go_simp; rfl)); intro gb456 hg w13 hbox hb; have n0_ := M.A_ (below_step (M.Lw HB) hb); have n1_ := M.A_ (hbox); have n2_ := M.A_ ((by rw [hg]; exact (below_size (M.Lw HB)) : w.heap.size ≤ gb456)); have n3_ := M.A_ ((by rw [hg]; exact (below_size (M.Lw HB)) : w.heap.size ≤ gb456)); clear HB; have HB := n0_; have BK456 := n1_; have GW456 := n2_; have GE456 := n3_; clear n0_ n1_ n2_ n3_; clear hb hbox hg; have hcz14_0 : w13.cell? ⟨gb456, 0, none⟩ = some (.int .i64 a0_0) := (blk_cell BK456.out 0).trans rfl; have hcz14_1 : w13.cell? ⟨gb456, 1, none⟩ = some (.int .i64 a0_1) := (blk_cell BK456.out 1).trans rfl; have hfz14_0 := blk_frozen BK456.out 0; have hfz14_1 := blk_frozen BK456.out 1) | (go_at_call 63; (with_reducible refine (spec_SpectrumOf.calls k a0_0 a0_1 t457 _ A2.out).mono ?_); rintro e w15 ⟨v458, rfl, ho0, hb⟩; have n0_ := M.A_ (Kd.R_lower ho0 (below_size (M.Lw HB))); have n1_ := M.A_ (blk_below (M.Lb BK456) hb); have n2_ := M.A_ (below_step (M.Lw HB) hb); clear BK456; clear HB; have HO459 := n0_; have BK456 := n1_; have HB := n2_; clear n0_ n1_ n2_; (try clear hb); (try clear hb2); (try clear hk); (try clear hi); (try clear ho0); obtain ⟨Ao16, co16, eo16⟩ := Kd.R_slice HO459.out; subst eo16) | ((with_reducible refine gate_dst (N := 16) rfl ?_); refine Kd.R_make (Kd.int .i64) _ 3 rfl (N := 16) rfl 26 _ _ rfl ji10 rfl rfl Try.underlying26 (.int .i64 0) 8 info3 rfl (by decide) (by omega) 0 (ok := fun _ => True) (okp := fun _ => True) rfl (fun _ hk => hk) trivial (of_decide_eq_true (by first | (with_reducible assumption) | assumption)) (Nat.le_trans (Nat.mul_le_mul_right _ (of_decide_eq_true (by first | (with_reducible assumption) | assumption) : ji10.toNat ≤ 35184372088832)) (by omega)) (Below.refl _ _) (Nat.le_refl _) ?_; intro v464 w17 ho18 hb hg_ hnew_; clear hg_ hnew_; (first | rw [← Ny463.out] at ho18 | (simp only [Int.reduceToNat] at ho18; rw [← Ny463.out] at ho18)); have n0_ := M.A_ (Kd.R_elder' (M.Lr HO459) (Kd.R_base ho18) hb); have n1_ := M.A_ (Kd.R_lower (Kd.R_new' ho18 (Kd.R_lt (M.Lr HO459))) (below_size (M.Lw HB))); have n2_ := M.A_ (blk_below (M.Lb BK456) hb); have n3_ := M.A_ (below_step (M.Lw HB) hb); clear HO459; clear BK456; clear HB; have HO459 := n0_; have HO465 := n1_; have BK456 := n2_; have HB := n3_; clear n0_ n1_ n2_ n3_; clear hb ho18))
    repeat (go_quiet (first | ((with_reducible refine gate_dst (N := 1) rfl ?_); refine box_event ?hg (N := 1) ?hd (cs := #[.int .i64 a0_0, .int .i64 a0_1]) (t := 25) ?hr ?_; (case hd => rfl); (case hg => rfl); (case hr => first | (go_simp; done) | (go_simp; rfl)); intro gb456 hg w13 hbox hb; have n0_ := M.A_ (below_step (M.Lw HB) hb); have n1_ := M.A_ (hbox); have n2_ := M.A_ ((by rw [hg]; exact (below_size (M.Lw HB)) : w.heap.size ≤ gb456)); have n3_ := M.A_ ((by rw [hg]; exact (below_size (M.Lw HB)) : w.heap.size ≤ gb456)); clear HB; have HB := n0_; have BK456 := n1_; have GW456 := n2_; have GE456 := n3_; clear n0_ n1_ n2_ n3_; clear hb hbox hg; have hcz14_0 : w13.cell? ⟨gb456, 0, none⟩ = some (.int .i64 a0_0) := (blk_cell BK456.out 0).trans rfl; have hcz14_1 : w13.cell? ⟨gb456, 1, none⟩ = some (.int .i64 a0_1) := (blk_cell BK456.out 1).trans rfl; have hfz14_0 := blk_frozen BK456.out 0; have hfz14_1 := blk_frozen BK456.out 1) | (go_at_call 63; (with_reducible refine (spec_SpectrumOf.calls k a0_0 a0_1 t457 _ A2.out).mono ?_); rintro e w15 ⟨v458, rfl, ho0, hb⟩; have n0_ := M.A_ (Kd.R_lower ho0 (below_size (M.Lw HB))); have n1_ := M.A_ (blk_below (M.Lb BK456) hb); have n2_ := M.A_ (below_step (M.Lw HB) hb); clear BK456; clear HB; have HO459 := n0_; have BK456 := n1_; have HB := n2_; clear n0_ n1_ n2_; (try clear hb); (try clear hb2); (try clear hk); (try clear hi); (try clear ho0); obtain ⟨Ao16, co16, eo16⟩ := Kd.R_slice HO459.out; subst eo16) | ((with_reducible refine gate_dst (N := 16) rfl ?_); refine Kd.R_make (Kd.int .i64) _ 3 rfl (N := 16) rfl 26 _ _ rfl ji10 rfl rfl Try.underlying26 (.int .i64 0) 8 info3 rfl (by decide) (by omega) 0 (ok := fun _ => True) (okp := fun _ => True) rfl (fun _ hk => hk) trivial (of_decide_eq_true (by first | (with_reducible assumption) | assumption)) (Nat.le_trans (Nat.mul_le_mul_right _ (of_decide_eq_true (by first | (with_reducible assumption) | assumption) : ji10.toNat ≤ 35184372088832)) (by omega)) (Below.refl _ _) (Nat.le_refl _) ?_; intro v464 w17 ho18 hb hg_ hnew_; clear hg_ hnew_; (first | rw [← Ny463.out] at ho18 | (simp only [Int.reduceToNat] at ho18; rw [← Ny463.out] at ho18)); have n0_ := M.A_ (Kd.R_elder' (M.Lr HO459) (Kd.R_base ho18) hb); have n1_ := M.A_ (Kd.R_lower (Kd.R_new' ho18 (Kd.R_lt (M.Lr HO459))) (below_size (M.Lw HB))); have n2_ := M.A_ (blk_below (M.Lb BK456) hb); have n3_ := M.A_ (below_step (M.Lw HB) hb); clear HO459; clear BK456; clear HB; have HO459 := n0_; have HO465 := n1_; have BK456 := n2_; have HB := n3_; clear n0_ n1_ n2_ n3_; clear hb ho18)); try go_wp2_with (first | ((with_reducible refine gate_dst (N := 1) rfl ?_); refine box_event ?hg (N := 1) ?hd (cs := #[.int .i64 a0_0, .int .i64 a0_1]) (t := 25) ?hr ?_; (case hd => rfl); (case hg => rfl); (case hr => first | (go_simp; done) | (go_simp; rfl)); intro gb456 hg w13 hbox hb; have n0_ := M.A_ (below_step (M.Lw HB) hb); have n1_ := M.A_ (hbox); have n2_ := M.A_ ((by rw [hg]; exact (below_size (M.Lw HB)) : w.heap.size ≤ gb456)); have n3_ := M.A_ ((by rw [hg]; exact (below_size (M.Lw HB)) : w.heap.size ≤ gb456)); clear HB; have HB := n0_; have BK456 := n1_; have GW456 := n2_; have GE456 := n3_; clear n0_ n1_ n2_ n3_; clear hb hbox hg; have hcz14_0 : w13.cell? ⟨gb456, 0, none⟩ = some (.int .i64 a0_0) := (blk_cell BK456.out 0).trans rfl; have hcz14_1 : w13.cell? ⟨gb456, 1, none⟩ = some (.int .i64 a0_1) := (blk_cell BK456.out 1).trans rfl; have hfz14_0 := blk_frozen BK456.out 0; have hfz14_1 := blk_frozen BK456.out 1) | (go_at_call 63; (with_reducible refine (spec_SpectrumOf.calls k a0_0 a0_1 t457 _ A2.out).mono ?_); rintro e w15 ⟨v458, rfl, ho0, hb⟩; have n0_ := M.A_ (Kd.R_lower ho0 (below_size (M.Lw HB))); have n1_ := M.A_ (blk_below (M.Lb BK456) hb); have n2_ := M.A_ (below_step (M.Lw HB) hb); clear BK456; clear HB; have HO459 := n0_; have BK456 := n1_; have HB := n2_; clear n0_ n1_ n2_; (try clear hb); (try clear hb2); (try clear hk); (try clear hi); (try clear ho0); obtain ⟨Ao16, co16, eo16⟩ := Kd.R_slice HO459.out; subst eo16) | ((with_reducible refine gate_dst (N := 16) rfl ?_); refine Kd.R_make (Kd.int .i64) _ 3 rfl (N := 16) rfl 26 _ _ rfl ji10 rfl rfl Try.underlying26 (.int .i64 0) 8 info3 rfl (by decide) (by omega) 0 (ok := fun _ => True) (okp := fun _ => True) rfl (fun _ hk => hk) trivial (of_decide_eq_true (by first | (with_reducible assumption) | assumption)) (Nat.le_trans (Nat.mul_le_mul_right _ (of_decide_eq_true (by first | (with_reducible assumption) | assumption) : ji10.toNat ≤ 35184372088832)) (by omega)) (Below.refl _ _) (Nat.le_refl _) ?_; intro v464 w17 ho18 hb hg_ hnew_; clear hg_ hnew_; (first | rw [← Ny463.out] at ho18 | (simp only [Int.reduceToNat] at ho18; rw [← Ny463.out] at ho18)); have n0_ := M.A_ (Kd.R_elder' (M.Lr HO459) (Kd.R_base ho18) hb); have n1_ := M.A_ (Kd.R_lower (Kd.R_new' ho18 (Kd.R_lt (M.Lr HO459))) (below_size (M.Lw HB))); have n2_ := M.A_ (blk_below (M.Lb BK456) hb); have n3_ := M.A_ (below_step (M.Lw HB) hb); clear HO459; clear BK456; clear HB; have HO459 := n0_; have HO465 := n1_; have BK456 := n2_; have HB := n3_; clear n0_ n1_ n2_ n3_; clear hb ho18)))
    go_loopg [5] k (fun kq v5 w' => ∃ (x4_1 : List Int) (x5_1 : Int), v5 = .int .i64 x5_1 ∧ Aside0 (spec_SpectrumProfile.l0 kq t457 x4_1 x5_1 = some r) ∧ Aside0 (kq ≤ k) ∧ Aside0 (Kd.R (Kd.int .i64) 3 w' w.heap.size (fun k_ => some k_ ≠ (v464 : Value).ownBlock) (.slice Ao16 t457.length co16) t457) ∧ Aside0 (Kd.R (Kd.int .i64) 3 w' w.heap.size (fun k_ => some k_ ≠ ((.slice Ao16 t457.length co16) : Value).ownBlock) v464 x4_1) ∧ Aside0 (w'.heap[gb456]? = some (.cells #[.int .i64 a0_0, .int .i64 a0_1] 25 (0, 0))) ∧ Aside0 (Below w.heap.size w w'))
    case atStart => exact ⟨(y463), (0), (by first | rfl | (simp; done) | (simp [*]; done)), H', ⟨Nat.le_refl _⟩, ⟨by (with_reducible repeat (first | apply Kd.R_alloc | apply Kd.R_drewN | apply Kd.R_drew)); exact Kd.R_mono HO459.out (fun _ hk => hk.2)⟩, ⟨by (with_reducible repeat (first | apply Kd.R_alloc | apply Kd.R_drewN | apply Kd.R_drew)); exact Kd.R_mono HO465.out (fun _ hk => hk.2)⟩, ⟨M.Lb BK456⟩, ⟨by repeat (first | (with_reducible first | exact HB.out | apply below_alloc | apply pw_below_drewN | apply below_drew1 | refine below_set ?_ GB24.out | refine below_set ?_ GE456.out) | exact HB.out)⟩⟩
    case round =>
     clear H'; (try clear c1); (try clear p2); (try clear c3); (try clear c3b0); (try clear c3b1); (try clear c3b2); (try clear p6); (try clear c11); (try clear c11b0); (try clear c11b1); (try clear c12); (try clear c12b0); (try clear c12b1); (try clear hcz14_0); (try clear hcz14_1); (try clear hcz5_0); (try clear hcz5_1); (try clear hfz14_0); (try clear hfz14_1); (try clear hfz5_0); (try clear hfz5_1); obtain ⟨x4_1, x5_1, rfl, HA, HK1, HO_3, HO_4, BK456, HB⟩ := hrel
     cases gk with
     | zero => exact absurd HA.out (by simp [spec_SpectrumProfile.l0])
     | succ k1 =>
      have H := HA.out
      clear HA
      simp only [spec_SpectrumProfile.l0] at H
      by_cases c19 : x5_1 < (t457.length : Int)
      ·rw [if_pos c19] at H
       have c19b0 : decide (x5_1 < (t457.length : Int)) = true := decide_eq_true c19
       clear c19
       by_cases c20 : 0 ≤ x5_1
       ·rw [if_pos c20] at H
        have c20b0 : decide (0 ≤ x5_1) = true := decide_eq_true c20
        clear c20
        obtain ⟨ji21, hji21⟩ : ∃ j_ : Int, (mx (rd t457 x5_1) (wrap64 (-(rd t457 x5_1)))) = j_ := ⟨_, rfl⟩
        replace H : (if 0 ≤ (ji21) then (if (ji21) < (x4_1.length : Int) then (spec_SpectrumProfile.l0 k1 t457 (x4_1.set ((ji21) : Int).toNat (wrap64 ((rd x4_1 (ji21)) + 1))) (wrap64 (x5_1 + 1))) else (none)) else (none)) = some r := by first | (rw [hji21] at H; exact H) | (simp only [hji21] at H ⊢; exact H)
        have hji21_ : (if (rd t457 x5_1) < (wrap64 (-(rd t457 x5_1))) then (wrap64 (-(rd t457 x5_1))) else (rd t457 x5_1)) = ji21 := hji21
        by_cases c22 : 0 ≤ (ji21)
        ·rw [if_pos c22] at H
         have c22b0 : decide (0 ≤ (ji21)) = true := decide_eq_true c22
         clear c22
         by_cases c23 : (ji21) < (x4_1.length : Int)
         ·rw [if_pos c23] at H
          have c23b0 : decide ((ji21) < (x4_1.length : Int)) = true := decide_eq_true c23
          clear c23
          obtain ⟨y469, hy469⟩ : ∃ y_ : List Int, y_ = (x4_1.set ((ji21) : Int).toNat (wrap64 ((rd x4_1 (ji21)) + 1))) := ⟨_, rfl⟩
          replace H : (spec_SpectrumProfile.l0 k1 t457 y469 (wrap64 (x5_1 + 1))) = some r := by first | (rw [hy469]; with_reducible exact H) | (have H2_ := (Option.bind_some _ _).symm.trans H; rw [hy469]; with_reducible exact H2_) | (have H2_ := (Option.bind_some _ _).symm.trans H; with_reducible exact H2_) | with_reducible exact H | (rw [hy469]; exact H) | exact H
          have Ny469 := M.A_ hy469; clear hy469
          have H' := M.A_ H
          clear H
          have p466 : 0 ≤ (x5_1 : Int) := of_decide_eq_true (by first | (with_reducible assumption) | assumption)
          have q466 : x5_1 < (t457.length : Int) := of_decide_eq_true (by first | (with_reducible assumption) | assumption)
          obtain ⟨ad466, e466, hx466_0⟩ := Kd.at_int (Kd.R_reads' HO_3.out).2.2 x5_1 p466 q466
          cases e466
          replace p466 := eq_true p466
          replace q466 := eq_true q466
          have p467 : 0 ≤ (x5_1 : Int) := of_decide_eq_true (by first | (with_reducible assumption) | assumption)
          have q467 : x5_1 < (t457.length : Int) := of_decide_eq_true (by first | (with_reducible assumption) | assumption)
          obtain ⟨ad467, e467, hx467_0⟩ := Kd.at_int (Kd.R_reads' HO_3.out).2.2 x5_1 p467 q467
          obtain rfl : ad466 = ad467 := (by injection e467)
          replace p467 := eq_true p467
          replace q467 := eq_true q467
          obtain ⟨Ao25, co25, eo25⟩ := Kd.R_slice HO_4.out
          subst eo25
          have p468 : 0 ≤ ((ji21) : Int) := of_decide_eq_true (by first | (with_reducible assumption) | assumption)
          have q468 : (ji21) < (x4_1.length : Int) := of_decide_eq_true (by first | (with_reducible assumption) | assumption)
          obtain ⟨ad468, e468, hx468_0⟩ := Kd.at_int (Kd.R_reads' HO_4.out).2.2 (ji21) p468 q468
          cases e468
          replace p468 := eq_true p468
          replace q468 := eq_true q468
          have p24 : 0 ≤ ((ji21) : Int) := of_decide_eq_true (by first | (with_reducible assumption) | assumption)
          have q24 : ((ji21) : Int) < ((x4_1.length : Int) : Int) := of_decide_eq_true (by first | (with_reducible assumption) | assumption)
          obtain ⟨go24, co24, eo24, gb24, gl24, cl24, HG24⟩ := Kd.R_form HO_4.out (by omega)
          (first | cases eo24 | (injection eo24 with ea_ en_ ec_; (first | subst ea_ | (injection ea_ with ea_; subst ea_)); subst ec_; clear en_))
          have GB24 := M.A_ gb24; have GG24 := M.A_ HG24; clear gb24 gl24 HG24
          (first | simp only [add_plain] at hx468_0 | skip)
          obtain ⟨hx24_0, hf24_0⟩ := Kd.R_celln 0 HO_4.out ((ji21) : Int) p24 q24
          replace p24 := eq_true p24
          replace q24 := eq_true q24
          have HP26 := Kd.R_putg HO_4.out ((ji21) : Int) (wrap64 ((rd x4_1 (ji21)) + 1))
          go_wp2_with (first | ((with_reducible refine gate_store (t := 3) (p := 40) rfl ?_); (try (rw [drewN_self wr]; generalize hq_ : World.drewN wr _ = wr; have n0_ := M.A_ (Kd.R_at hq_ HO_3.out); have n1_ := M.A_ (Kd.R_at hq_ HO_4.out); have n2_ := M.A_ (blk_at hq_ BK456.out); have n3_ := M.A_ (below_at hq_ HB.out); clear hq_ HO_3 HO_4 BK456 HB; have HO_3 := n0_; have HO_4 := n1_; have BK456 := n2_; have HB := n3_; clear n0_ n1_ n2_ n3_; (try (have HP26 := Kd.R_putg HO_4.out ((ji21) : Int) (wrap64 ((rd x4_1 (ji21)) + 1)))))); refine store_event (t := 3) (p := 40) (v := ?vo_w27) (w1 := (wr.setCell ⟨go24, ((ji21) : Int).toNat, none⟩ (.int .i64 (wrap64 ((rd x4_1 (ji21)) + 1))))) ?hg ?ho ?hn ?hr ?_; (case ho => rfl); (case hg => rfl); (case hn => rfl); (case hr => first | (go_simp; done) | (go_simp; rfl)); intro w27 hw; have hg : wr.grownBy w27 (some go24) := (by rw [hw]; exact HP26.2); have hp_ : Kd.R (Kd.int .i64) 3 w27 w.heap.size (fun k_ => some k_ ≠ (.slice (some ad466) t457.length co16 : Value).ownBlock) (.slice (some ⟨go24, 0, none⟩) x4_1.length co25) y469 := (by rw [hw, Ny469.out]; exact HP26.1); clear HP26; have n0_ := M.A_ (Kd.R_after (v := (.slice (some ⟨go24, 0, none⟩) x4_1.length co25)) (v1 := (.slice (some ⟨go24, 0, none⟩) x4_1.length co25)) (ok := (fun _ => True)) (by (with_reducible repeat (first | apply Kd.R_alloc | apply Kd.R_drewN | apply Kd.R_drew)); exact Kd.R_mono HO_3.out (fun _ hk => ⟨trivial, hk⟩)) hg (.inl rfl)); have n1_ := M.A_ (hp_); have n2_ := M.A_ (blk_grown (g := gb456) (o := .cells #[.int .i64 a0_0, .int .i64 a0_1] 25 (0, 0)) (M.Lb BK456) hg (Kd.R_ne HO_4.out BK456.out (by decide))); have n3_ := M.A_ ((by rw [hw]; exact below_set (HB.out) GB24.out : Below w.heap.size w w27)); clear HO_3; clear HO_4; clear BK456; clear HB; have HO_3 := n0_; have HO_4 := n1_; have BK456 := n2_; have HB := n3_; clear n0_ n1_ n2_ n3_; clear hg hw hp_))
          repeat (go_quiet (first | ((with_reducible refine gate_store (t := 3) (p := 40) rfl ?_); (try (rw [drewN_self wr]; generalize hq_ : World.drewN wr _ = wr; have n0_ := M.A_ (Kd.R_at hq_ HO_3.out); have n1_ := M.A_ (Kd.R_at hq_ HO_4.out); have n2_ := M.A_ (blk_at hq_ BK456.out); have n3_ := M.A_ (below_at hq_ HB.out); clear hq_ HO_3 HO_4 BK456 HB; have HO_3 := n0_; have HO_4 := n1_; have BK456 := n2_; have HB := n3_; clear n0_ n1_ n2_ n3_; (try (have HP26 := Kd.R_putg HO_4.out ((ji21) : Int) (wrap64 ((rd x4_1 (ji21)) + 1)))))); refine store_event (t := 3) (p := 40) (v := ?vo_w27) (w1 := (wr.setCell ⟨go24, ((ji21) : Int).toNat, none⟩ (.int .i64 (wrap64 ((rd x4_1 (ji21)) + 1))))) ?hg ?ho ?hn ?hr ?_; (case ho => rfl); (case hg => rfl); (case hn => rfl); (case hr => first | (go_simp; done) | (go_simp; rfl)); intro w27 hw; have hg : wr.grownBy w27 (some go24) := (by rw [hw]; exact HP26.2); have hp_ : Kd.R (Kd.int .i64) 3 w27 w.heap.size (fun k_ => some k_ ≠ (.slice (some ad466) t457.length co16 : Value).ownBlock) (.slice (some ⟨go24, 0, none⟩) x4_1.length co25) y469 := (by rw [hw, Ny469.out]; exact HP26.1); clear HP26; have n0_ := M.A_ (Kd.R_after (v := (.slice (some ⟨go24, 0, none⟩) x4_1.length co25)) (v1 := (.slice (some ⟨go24, 0, none⟩) x4_1.length co25)) (ok := (fun _ => True)) (by (with_reducible repeat (first | apply Kd.R_alloc | apply Kd.R_drewN | apply Kd.R_drew)); exact Kd.R_mono HO_3.out (fun _ hk => ⟨trivial, hk⟩)) hg (.inl rfl)); have n1_ := M.A_ (hp_); have n2_ := M.A_ (blk_grown (g := gb456) (o := .cells #[.int .i64 a0_0, .int .i64 a0_1] 25 (0, 0)) (M.Lb BK456) hg (Kd.R_ne HO_4.out BK456.out (by decide))); have n3_ := M.A_ ((by rw [hw]; exact below_set (HB.out) GB24.out : Below w.heap.size w w27)); clear HO_3; clear HO_4; clear BK456; clear HB; have HO_3 := n0_; have HO_4 := n1_; have BK456 := n2_; have HB := n3_; clear n0_ n1_ n2_ n3_; clear hg hw hp_)); try go_wp2_with (first | ((with_reducible refine gate_store (t := 3) (p := 40) rfl ?_); (try (rw [drewN_self wr]; generalize hq_ : World.drewN wr _ = wr; have n0_ := M.A_ (Kd.R_at hq_ HO_3.out); have n1_ := M.A_ (Kd.R_at hq_ HO_4.out); have n2_ := M.A_ (blk_at hq_ BK456.out); have n3_ := M.A_ (below_at hq_ HB.out); clear hq_ HO_3 HO_4 BK456 HB; have HO_3 := n0_; have HO_4 := n1_; have BK456 := n2_; have HB := n3_; clear n0_ n1_ n2_ n3_; (try (have HP26 := Kd.R_putg HO_4.out ((ji21) : Int) (wrap64 ((rd x4_1 (ji21)) + 1)))))); refine store_event (t := 3) (p := 40) (v := ?vo_w27) (w1 := (wr.setCell ⟨go24, ((ji21) : Int).toNat, none⟩ (.int .i64 (wrap64 ((rd x4_1 (ji21)) + 1))))) ?hg ?ho ?hn ?hr ?_; (case ho => rfl); (case hg => rfl); (case hn => rfl); (case hr => first | (go_simp; done) | (go_simp; rfl)); intro w27 hw; have hg : wr.grownBy w27 (some go24) := (by rw [hw]; exact HP26.2); have hp_ : Kd.R (Kd.int .i64) 3 w27 w.heap.size (fun k_ => some k_ ≠ (.slice (some ad466) t457.length co16 : Value).ownBlock) (.slice (some ⟨go24, 0, none⟩) x4_1.length co25) y469 := (by rw [hw, Ny469.out]; exact HP26.1); clear HP26; have n0_ := M.A_ (Kd.R_after (v := (.slice (some ⟨go24, 0, none⟩) x4_1.length co25)) (v1 := (.slice (some ⟨go24, 0, none⟩) x4_1.length co25)) (ok := (fun _ => True)) (by (with_reducible repeat (first | apply Kd.R_alloc | apply Kd.R_drewN | apply Kd.R_drew)); exact Kd.R_mono HO_3.out (fun _ hk => ⟨trivial, hk⟩)) hg (.inl rfl)); have n1_ := M.A_ (hp_); have n2_ := M.A_ (blk_grown (g := gb456) (o := .cells #[.int .i64 a0_0, .int .i64 a0_1] 25 (0, 0)) (M.Lb BK456) hg (Kd.R_ne HO_4.out BK456.out (by decide))); have n3_ := M.A_ ((by rw [hw]; exact below_set (HB.out) GB24.out : Below w.heap.size w w27)); clear HO_3; clear HO_4; clear BK456; clear HB; have HO_3 := n0_; have HO_4 := n1_; have BK456 := n2_; have HB := n3_; clear n0_ n1_ n2_ n3_; clear hg hw hp_)))
          go_roundg k1
          case measure => have := HK1.out; omega
          case rel => exact ⟨(y469), (wrap64 (x5_1 + 1)), (by first | rfl | (simp; done) | (simp [*]; done)), H', ⟨by have := HK1.out; omega⟩, ⟨by (with_reducible repeat (first | apply Kd.R_alloc | apply Kd.R_drewN | apply Kd.R_drew)); exact Kd.R_far (Kd.R_drewN HO_3.out _) (fun k_ hk_ e_ => hk_ (by subst e_; rfl)) _⟩, ⟨by (with_reducible repeat (first | apply Kd.R_alloc | apply Kd.R_drewN | apply Kd.R_drew)); rw [Ny469.out]; exact (Kd.R_putg (Kd.R_drewN HO_4.out _) _ _).1⟩, ⟨by (with_reducible repeat (first | refine blk_drewN ?_ _ | refine blk_drew ?_ | refine blk_alloc ?_ _)); exact blk_far (blk_drewN BK456.out _) (blk_ne BK456.out GG24.out (by decide)) _⟩, ⟨by repeat (first | (with_reducible first | exact HB.out | apply M.ba | apply M.pd | apply below_drew1 | refine below_set ?_ GE456.out) | refine below_set ?_ GB24.out | exact HB.out)⟩⟩
         ·rw [if_neg c23] at H
          exact absurd H (by simp)
        ·rw [if_neg c22] at H
         exact absurd H (by simp)
       ·rw [if_neg c20] at H
        exact absurd H (by simp)
      ·rw [if_neg c19] at H
       have c19b0 : decide (x5_1 < (t457.length : Int)) = false := decide_eq_false c19
       clear c19
       obtain rfl := Option.some.inj H
       go_wp2
       repeat (go_quiet (fail); try go_wp2)
       go_ret
       exact ⟨_, by first | rfl | (simp [errW_none, errW_some] <;> rfl) | (simp only [← hji10]; first | rfl | (simp [errW_none, errW_some] <;> rfl)) | (simp [*, errW_none, errW_some] <;> rfl), by (with_reducible repeat (first | apply Kd.R_alloc | apply Kd.R_drewN | apply Kd.R_drew)); exact Kd.R_mono HO_4.out (fun _ hk => trivial), by repeat (first | (with_reducible first | exact HB.out | apply below_alloc | apply pw_below_drewN | apply below_drew1 | refine below_set ?_ GB24.out | refine below_set ?_ GE456.out) | exact HB.out)⟩
   ·rw [if_neg c12] at H
    exact absurd H (by simp)
  ·rw [if_neg c11] at H
   exact absurd H (by simp)
end Go.Proofs.Ytodfifkgohjpfaa.Print
