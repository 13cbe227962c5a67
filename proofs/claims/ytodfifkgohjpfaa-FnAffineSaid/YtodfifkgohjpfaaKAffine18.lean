/- Several texts of this repo's programs in one: plain lemmas, or functions of the given program as plain Lean functions with proofs that their calls compute them. -/
import Derived.Test.YtodfifkgohjpfaaKAffine2
import Derived.Test.YtodfifkgohjpfaaKAffine11
import Derived.Test.YtodfifkgohjpfaaM29
import Derived.Shelf.GgClosure.Gives
import Derived.BigQuiet
import Derived.Deep.RegionHeld3
namespace Go.Proofs.Ytodfifkgohjpfaa.Print
open Go.RowKit Go.Proofs.YtodfifkgohjpfaaW.PrintWords Go.Proofs.YtodfifkgohjpfaaW.PrintLast Go.Proofs.YtodfifkgohjpfaaW.PrintMore
attribute [local go_sem] max2_int min2_int max_two min_two max_three min_three max_four min_four   -- for this text's walks alone
set_option linter.unusedVariables false
set_option linter.unusedSimpArgs false
set_option maxHeartbeats 8000000
set_option maxRecDepth 100000
def spec_l1In.f (a0 : Int) (a1 : Int) (a2 : Int) : Option (Bool) := if a0 ≥ a1 then (some (decide (a0 ≤ a2))) else (some false)
theorem spec_l1In.calls (a0 : Int) (a1 : Int) (a2 : Int) (r : Bool) (w : World) (h : spec_l1In.f a0 a1 a2 = some r) :
  Calls Try.prog 44 #[.int .i64 a0, .int .i64 a1, .int .i64 a2] w fun e w' => e = .returned (.bool r) ∧ Drawn0 w w' := by
 have H : (if a0 ≥ a1 then (some (decide (a0 ≤ a2))) else (some false)) = some r := h
 clear h
 by_cases c4 : a0 ≥ a1
 ·rw [if_pos c4] at H
  have c4b0 : decide (a1 ≤ a0) = true := decide_eq_true c4
  clear c4
  obtain rfl := Option.some.inj H
  go_enter Try.func44, Try.ntmps44
  go_wp2
  go_ret
  exact ⟨by first | rfl | (simp; done) | (simp [*]; done), by repeat (first | exact Drawn0.refl _ | apply Drawn0.step)⟩
 ·rw [if_neg c4] at H
  have c4b0 : decide (a1 ≤ a0) = false := decide_eq_false c4
  clear c4
  obtain rfl := Option.some.inj H
  go_enter Try.func44, Try.ntmps44
  go_wp2
  go_ret
  exact ⟨by first | rfl | (simp; done) | (simp [*]; done), by repeat (first | exact Drawn0.refl _ | apply Drawn0.step)⟩
mutual
def spec_RankMod2.l0 : Nat → List Int → List Int → Int → Option (Int)
 | 0, _, _, _ => none
 | k + 1, x0, x3, x4 => if x4 < (x0.length : Int) then (if 0 ≤ x4 then ((spec_l1In.f (rd x0 x4) 0 4294967295).bind fun t236 => (if t236 = true then (spec_RankMod2.j1 k x0 x3 x4 (decide (x4 > 31))) else (spec_RankMod2.j1 k x0 x3 x4 true))) else (none)) else (some (x3.length : Int))
def spec_RankMod2.j1 : Nat → List Int → List Int → Int → Bool → Option (Int)
 | 0, _, _, _, _ => none
 | k + 1, x0, x3, x4, x23 => if x23 = true then (some (-1)) else (if 0 ≤ x4 then (if x4 < (x0.length : Int) then (spec_RankMod2.l1 k x0 x3 x4 (rd x0 x4) 0) else (none)) else (none))
def spec_RankMod2.l1 : Nat → List Int → List Int → Int → Int → Int → Option (Int)
 | 0, _, _, _, _, _ => none
 | k + 1, x0, x3, x4, x5, x6 => if x6 < (x3.length : Int) then (if 0 ≤ x6 then (spec_RankMod2.l1 k x0 x3 x4 (mn x5 (Go.bits .xor .i64 x5 (rd x3 x6))) (wrap64 (x6 + 1))) else (none)) else (if x5 > 0 then (if x3.length < 17592186044416 then (spec_RankMod2.l0 k x0 (x3 ++ [x5]) (wrap64 (x4 + 1))) else (none)) else (spec_RankMod2.l0 k x0 x3 (wrap64 (x4 + 1))))
end
def spec_RankMod2.f (k : Nat) (l0 : List Int) : Option (Int) := spec_RankMod2.l0 k l0 (([] : List Int)) 0
theorem spec_RankMod2.calls (k : Nat) (A0 : Option Addr) (c0 : Nat) (l0 : List Int) (r : Int) (w : World) (hr0 : Kd.C (Kd.int .i64) w A0 l0.length l0) (hc0 : l0.length ≤ c0) (h : spec_RankMod2.f k l0 = some r) :
  Calls Try.prog 62 #[.slice A0 l0.length c0] w fun e w' => e = .returned (.int .i64 r) ∧ Below w.heap.size w w' := by
 have HR0 := M.A_ hr0; have HC0 := M.A_ hc0; clear hr0 hc0
 have HB := M.A_ (Below.refl w.heap.size w)
 have H : (spec_RankMod2.l0 k l0 (([] : List Int)) 0) = some r := h
 clear h
 obtain ⟨y232, hy232⟩ : ∃ y_ : List Int, y_ = (([] : List Int)) := ⟨_, rfl⟩
 replace H : (spec_RankMod2.l0 k l0 y232 0) = some r := by first | (rw [hy232]; with_reducible exact H) | (have H2_ := (Option.bind_some _ _).symm.trans H; rw [hy232]; with_reducible exact H2_) | (have H2_ := (Option.bind_some _ _).symm.trans H; with_reducible exact H2_) | with_reducible exact H | (rw [hy232]; exact H) | exact H
 have Ny232 := M.A_ hy232; clear hy232
 have H' := M.A_ H
 clear H
 go_enter Try.func62, Try.ntmps62
 go_wp2_with (first | ((with_reducible refine gate_dst (N := 7) rfl ?_); refine Kd.R_lit (Kd.int .i64) _ 3 ?hg (N := 7) ?hd (xs := ([] : List Int)) (inner := []) (ok := fun _ => True) (okp := fun _ => True) ?hr ?hp (fun _ hk => hk) trivial (Below.refl _ _) (Nat.le_refl _) (by simp) ?_; (case hd => rfl); (case hg => rfl); (case hr => first | (go_simp; done) | (go_simp; rfl)); (case hp => exact (Reps.none _ _)); intro v233 w2 ho3 hb hg_ hnew_; clear hg_ hnew_; (first | rw [← Ny232.out] at ho3 | (simp only [Int.reduceToNat] at ho3; rw [← Ny232.out] at ho3)); have n0_ := M.A_ (Kd.R_lower ho3 (below_size (M.Lw HB))); have n1_ := M.A_ (below_step (M.Lw HB) hb); clear HB; have HO234 := n0_; have HB := n1_; clear n0_ n1_; clear hb ho3))
 go_loopg [3, 4] k (fun kq v3 v4 w' => ∃ (x3_1 : List Int) (x4_1 : Int), v4 = .int .i64 x4_1 ∧ Aside0 (spec_RankMod2.l0 kq l0 x3_1 x4_1 = some r) ∧ Aside0 (kq ≤ k) ∧ Aside0 (Kd.R (Kd.int .i64) 3 w' w.heap.size (fun _ => True) v3 x3_1) ∧ Aside0 (Below w.heap.size w w'))
 case atStart => exact ⟨(y232), (0), (by first | rfl | (simp; done) | (simp [*]; done)), H', ⟨Nat.le_refl _⟩, ⟨M.Lr HO234⟩, ⟨M.Lw HB⟩⟩
 case round =>
  clear H'; (try clear p2); obtain ⟨x3_1, x4_1, rfl, HA, HK1, HO_3, HB⟩ := hrel
  cases gk with
  | zero => exact absurd HA.out (by simp [spec_RankMod2.l0])
  | succ k1 =>
   have H := HA.out
   clear HA
   simp only [spec_RankMod2.l0] at H
   by_cases c4 : x4_1 < (l0.length : Int)
   ·rw [if_pos c4] at H
    have c4b0 : decide (x4_1 < (l0.length : Int)) = true := decide_eq_true c4
    clear c4; have HC5 := M.A_ H; clear H
    go_upto_region 5 with (fail)
    go_cut [23] (fun v23 wc => ∃ (kq : Nat) (x23_4 : Bool), v23 = .bool x23_4 ∧ Aside0 (spec_RankMod2.j1 kq l0 x3_1 x4_1 x23_4 = some r) ∧ Aside0 (kq ≤ k1) ∧ Aside0 (Kd.R (Kd.int .i64) 3 wc w.heap.size (fun _ => True) u3 x3_1) ∧ Aside0 (Below w.heap.size w wc))
    case first =>
     have H := HC5.out
     clear HC5
     by_cases c6 : 0 ≤ x4_1
     ·rw [if_pos c6] at H
      have c6b0 : decide (0 ≤ x4_1) = true := decide_eq_true c6
      clear c6
      (first | rw [c6b0] | (simp only [i64_w, i32_w]; rw [c6b0]) | skip)
      obtain ⟨t236, A7, H⟩ := M.ob_ H; (try dsimp only at H)
      by_cases c8 : t236 = true
      ·subst c8
       rw [if_pos rfl] at H; (try dsimp only at H)
       have H' := M.A_ H
       clear H
       have p235 : 0 ≤ (x4_1 : Int) := of_decide_eq_true (by first | (with_reducible assumption) | assumption)
       have q235 : x4_1 < (l0.length : Int) := of_decide_eq_true (by first | (with_reducible assumption) | assumption)
       obtain ⟨ad235, e235, hx235_0⟩ := Kd.at_int HR0.out x4_1 p235 q235
       cases e235
       replace hx235_0 := (HB.out.cell (World.block_lt_of_cell? w _ hx235_0)).trans hx235_0
       replace p235 := eq_true p235
       replace q235 := eq_true q235
       go_wp2_with (first | ((with_reducible refine gate_callee (f := 44) rfl ?_); refine goesL_ (some 18) rfl rfl Try.func44 (by kernel_rfl) rfl #[.int .i64 (rd l0 x4_1), .int .i64 0, .int .i64 4294967295] rfl (by first | rfl | (simp only [M.mt, M.mc, M.mn, M.ld, M.lt]; rfl)) ?_; (with_reducible refine (spec_l1In.calls (rd l0 x4_1) 0 4294967295 true _ A7.out).mono ?_); rintro e w' ⟨rfl, ⟨nd, rfl⟩⟩; refine ⟨_, rfl, ?_⟩))
       go_meet
       case rel => exact ⟨_, (decide (x4_1 > 31)), (by first | rfl | (simp; done) | (simp [*]; done)), H', ⟨by have := HK1.out; first | omega | exact Nat.le_refl _⟩, ⟨M.Lr HO_3⟩, ⟨M.Lw HB⟩⟩
      ·replace c8 := Bool.eq_false_iff.mpr c8
       subst c8
       rw [if_neg (show ¬ (false = true) by decide)] at H; (try dsimp only at H)
       have H' := M.A_ H
       clear H
       have p235 : 0 ≤ (x4_1 : Int) := of_decide_eq_true (by first | (with_reducible assumption) | assumption)
       have q235 : x4_1 < (l0.length : Int) := of_decide_eq_true (by first | (with_reducible assumption) | assumption)
       obtain ⟨ad235, e235, hx235_0⟩ := Kd.at_int HR0.out x4_1 p235 q235
       cases e235
       replace hx235_0 := (HB.out.cell (World.block_lt_of_cell? w _ hx235_0)).trans hx235_0
       replace p235 := eq_true p235
       replace q235 := eq_true q235
       go_wp2_with (first | ((with_reducible refine gate_callee (f := 44) rfl ?_); refine goesL_ (some 18) rfl rfl Try.func44 (by kernel_rfl) rfl #[.int .i64 (rd l0 x4_1), .int .i64 0, .int .i64 4294967295] rfl (by first | rfl | (simp only [M.mt, M.mc, M.mn, M.ld, M.lt]; rfl)) ?_; (with_reducible refine (spec_l1In.calls (rd l0 x4_1) 0 4294967295 false _ A7.out).mono ?_); rintro e w' ⟨rfl, ⟨nd, rfl⟩⟩; refine ⟨_, rfl, ?_⟩))
       go_meet
       case rel => exact ⟨_, (true), (by first | rfl | (simp; done) | (simp [*]; done)), H', ⟨by have := HK1.out; first | omega | exact Nat.le_refl _⟩, ⟨M.Lr HO_3⟩, ⟨M.Lw HB⟩⟩
     ·rw [if_neg c6] at H
      exact absurd H (by simp)
    case rest =>
     clear HC5; (try clear p2); (try clear q2); (try clear hx2); (try clear c4); (try clear c4b0); (try clear c6); (try clear c6b0); (try clear c8); (try clear hx235_0); (try clear p2); (try clear p235); (try clear q235); obtain ⟨kq, x23_4, rfl, HA, HJ4, HO_3, HB⟩ := hcut
     cases kq with
     | zero => exact absurd HA.out (by simp [spec_RankMod2.j1])
     | succ kj4 =>
      have H := HA.out
      clear HA
      simp only [spec_RankMod2.j1] at H
      by_cases c9 : x23_4 = true
      ·subst c9
       rw [if_pos rfl] at H; (try dsimp only at H)
       obtain rfl := Option.some.inj H
       go_wp2
       go_ret
       exact ⟨by first | rfl | (simp [*, errW_none, errW_some] <;> rfl), M.Lw HB⟩
      ·replace c9 := Bool.eq_false_iff.mpr c9
       subst c9
       rw [if_neg (show ¬ (false = true) by decide)] at H; (try dsimp only at H)
       by_cases c10 : 0 ≤ x4_1
       ·rw [if_pos c10] at H
        have c10b0 : decide (0 ≤ x4_1) = true := decide_eq_true c10
        clear c10
        by_cases c11 : x4_1 < (l0.length : Int)
        ·rw [if_pos c11] at H
         have c11b0 : decide (x4_1 < (l0.length : Int)) = true := decide_eq_true c11
         clear c11
         have H' := M.A_ H
         clear H
         have p237 : 0 ≤ (x4_1 : Int) := of_decide_eq_true (by first | (with_reducible assumption) | assumption)
         have q237 : x4_1 < (l0.length : Int) := of_decide_eq_true (by first | (with_reducible assumption) | assumption)
         obtain ⟨ad237, e237, hx237_0⟩ := Kd.at_int HR0.out x4_1 p237 q237
         cases e237
         replace hx237_0 := (HB.out.cell (World.block_lt_of_cell? w _ hx237_0)).trans hx237_0
         replace p237 := eq_true p237
         replace q237 := eq_true q237
         go_wp2
         go_loopg [5, 6] kj4 (fun kq v5 v6 w' => ∃ (x5_3 : Int) (x6_3 : Int), v5 = .int .i64 x5_3 ∧ v6 = .int .i64 x6_3 ∧ Aside0 (spec_RankMod2.l1 kq l0 x3_1 x4_1 x5_3 x6_3 = some r) ∧ Aside0 (kq ≤ kj4) ∧ Aside0 (Kd.R (Kd.int .i64) 3 w' w.heap.size (fun _ => True) u3 x3_1) ∧ Aside0 (Below w.heap.size w w'))
         case atStart => exact ⟨(rd l0 x4_1), (0), (by first | rfl | (simp; done) | (simp [*]; done)), (by first | rfl | (simp; done) | (simp [*]; done)), H', ⟨Nat.le_refl _⟩, ⟨M.Lr HO_3⟩, ⟨M.Lw HB⟩⟩
         case round =>
          clear H'; (try clear c1); (try clear p2); (try clear q2); (try clear hx2); (try clear c4); (try clear c4b0); (try clear c6); (try clear c6b0); (try clear c8); (try clear c9); (try clear c10); (try clear c10b0); (try clear c11); (try clear c11b0); (try clear hx235_0); (try clear hx237_0); (try clear p2); (try clear p235); (try clear p237); (try clear q2); (try clear q235); (try clear q237); obtain ⟨x5_3, x6_3, rfl, rfl, HA, HK3, HO_3, HB⟩ := hrel
          cases gk with
          | zero => exact absurd HA.out (by simp [spec_RankMod2.l1])
          | succ k3 =>
           have H := HA.out
           clear HA
           simp only [spec_RankMod2.l1] at H
           by_cases c12 : x6_3 < (x3_1.length : Int)
           ·rw [if_pos c12] at H
            have c12b0 : decide (x6_3 < (x3_1.length : Int)) = true := decide_eq_true c12
            clear c12
            by_cases c13 : 0 ≤ x6_3
            ·rw [if_pos c13] at H
             have c13b0 : decide (0 ≤ x6_3) = true := decide_eq_true c13
             clear c13
             obtain ⟨ji14, hji14⟩ : ∃ j_ : Int, (mn x5_3 (Go.bits .xor .i64 x5_3 (rd x3_1 x6_3))) = j_ := ⟨_, rfl⟩
             replace H : (spec_RankMod2.l1 k3 l0 x3_1 x4_1 ji14 (wrap64 (x6_3 + 1))) = some r := by first | (rw [hji14] at H; exact H) | (simp only [hji14] at H ⊢; exact H)
             have hji14_ : (if (Go.bits .xor .i64 x5_3 (rd x3_1 x6_3)) < x5_3 then (Go.bits .xor .i64 x5_3 (rd x3_1 x6_3)) else x5_3) = ji14 := hji14
             have H' := M.A_ H
             clear H
             obtain ⟨Ao15, co15, eo15⟩ := Kd.R_slice HO_3.out
             subst eo15
             have p238 : 0 ≤ (x6_3 : Int) := of_decide_eq_true (by first | (with_reducible assumption) | assumption)
             have q238 : x6_3 < (x3_1.length : Int) := of_decide_eq_true (by first | (with_reducible assumption) | assumption)
             obtain ⟨ad238, e238, hx238_0⟩ := Kd.at_int (Kd.R_reads' HO_3.out).2.2 x6_3 p238 q238
             cases e238
             replace p238 := eq_true p238
             replace q238 := eq_true q238
             go_wp2
             go_roundg k3
             case measure => have := HK1.out; have := HJ4.out; have := HK3.out; omega
             case rel => exact ⟨(ji14), (wrap64 (x6_3 + 1)), (by first | rfl | (simp; done) | (simp only [← hji14] <;> (first | rfl | simp)) | (simp [*]; done)), (by first | rfl | (simp; done) | (simp [*]; done)), H', ⟨by have := HK1.out; have := HJ4.out; have := HK3.out; omega⟩, ⟨M.Lr HO_3⟩, ⟨M.Lw HB⟩⟩
            ·rw [if_neg c13] at H
             exact absurd H (by simp)
           ·rw [if_neg c12] at H
            have c12b0 : decide (x6_3 < (x3_1.length : Int)) = false := decide_eq_false c12
            clear c12
            by_cases c16 : x5_3 > 0
            ·rw [if_pos c16] at H
             have c16b0 : decide (0 < x5_3) = true := decide_eq_true c16
             clear c16
             by_cases c17 : x3_1.length < 17592186044416
             ·rw [if_pos c17] at H; have LMc17 := M.A_ c17; clear c17
              obtain ⟨y239, hy239⟩ : ∃ y_ : List Int, y_ = (x3_1 ++ [x5_3]) := ⟨_, rfl⟩
              replace H : (spec_RankMod2.l0 k3 l0 y239 (wrap64 (x4_1 + 1))) = some r := by first | (rw [hy239]; with_reducible exact H) | (have H2_ := (Option.bind_some _ _).symm.trans H; rw [hy239]; with_reducible exact H2_) | (have H2_ := (Option.bind_some _ _).symm.trans H; with_reducible exact H2_) | with_reducible exact H | (rw [hy239]; exact H) | exact H
              have Ny239 := M.A_ hy239; clear hy239
              have H' := M.A_ H
              clear H
              obtain ⟨Ao18, co18, eo18⟩ := Kd.R_slice HO_3.out
              subst eo18
              go_wp2_with (first | ((with_reducible refine gate_builtin (b := .append) (xs := #[.tmp 44, .tmp 46]) rfl ?_); at_builtin; refine Kd.R_append (Kd.int .i64) (w0 := w) w.heap.size rfl (.tmp 44) (.tmp 46) 26 3 (.int .i64 0) 8 rfl Try.underlying26 info3 rfl (by decide) (by omega) (.slice Ao18 x3_1.length co18) x3_1 x5_3 [.int .i64 x5_3] (fun _ => True) (fun _ => False) rfl rfl ?aP (fun _ hk => hk.elim) ?aF ?aO ?aB ?aS ?aL ?_; (case aP => exact rfl); (case aB => exact (M.Lw HB)); (case aF => exact (fun _ _ => trivial)); (case aO => exact (M.Lr HO_3)); (case aS => exact (below_size (M.Lw HB))); (case aL => have := LMc17.out; omega); intro v240 w19 ho hb hg hat; rw [← Ny239.out] at ho; have n0_ := M.A_ (hb); have n1_ := M.A_ (ho); clear HB; clear HO_3; have HB := n0_; have HO241 := n1_; clear n0_ n1_; clear ho hb hg hat))
              go_roundg k3
              case measure => have := HK1.out; have := HJ4.out; have := HK3.out; omega
              case rel => exact ⟨(y239), (wrap64 (x4_1 + 1)), (by first | rfl | (simp; done) | (simp [*]; done)), H', ⟨by have := HK1.out; have := HJ4.out; have := HK3.out; omega⟩, ⟨M.Lr HO241⟩, ⟨M.Lw HB⟩⟩
             ·rw [if_neg c17] at H
              exact absurd H (by simp)
            ·rw [if_neg c16] at H
             have c16b0 : decide (0 < x5_3) = false := decide_eq_false c16
             clear c16
             have H' := M.A_ H
             clear H
             obtain ⟨Ao20, co20, eo20⟩ := Kd.R_slice HO_3.out
             subst eo20
             go_wp2
             go_roundg k3
             case measure => have := HK1.out; have := HJ4.out; have := HK3.out; omega
             case rel => exact ⟨(x3_1), (wrap64 (x4_1 + 1)), (by first | rfl | (simp; done) | (simp [*]; done)), H', ⟨by have := HK1.out; have := HJ4.out; have := HK3.out; omega⟩, ⟨M.Lr HO_3⟩, ⟨M.Lw HB⟩⟩
        ·rw [if_neg c11] at H
         exact absurd H (by simp)
       ·rw [if_neg c10] at H
        exact absurd H (by simp)
   ·rw [if_neg c4] at H
    have c4b0 : decide (x4_1 < (l0.length : Int)) = false := decide_eq_false c4
    clear c4
    obtain rfl := Option.some.inj H
    obtain ⟨Ao21, co21, eo21⟩ := Kd.R_slice HO_3.out
    subst eo21
    go_wp2
    go_ret
    exact ⟨by first | rfl | (simp [*, errW_none, errW_some] <;> rfl), M.Lw HB⟩
mutual
def spec_IsInvertible.j0 : Nat → Int → List Int → Bool → Option (Bool)
 | 0, _, _, _ => none
 | k + 1, x0, x1, x14 => if x14 = true then (some false) else (spec_IsInvertible.l0 k x0 x1 0)
def spec_IsInvertible.l0 : Nat → Int → List Int → Int → Option (Bool)
 | 0, _, _, _ => none
 | k + 1, x0, x1, x5 => if x5 < x0 then (if 0 ≤ x5 then (if x5 < (x1.length : Int) then (if 0 ≤ x0 then ((spec_l1In.f (rd x1 x5) 0 (wrap64 ((shl .i64 1 x0) - 1))).bind fun t244 => (if t244 = true then (spec_IsInvertible.l0 k x0 x1 (wrap64 (x5 + 1))) else (some false))) else (none)) else (none)) else (none)) else ((spec_RankMod2.f k x1).bind fun t245 => (some (t245 == x0)))
end
def spec_IsInvertible.f (k : Nat) (a0 : Int) (l1 : List Int) : Option (Bool) := (spec_l1In.f a0 0 5).bind fun t242 => (if t242 = true then (spec_IsInvertible.j0 k a0 l1 ((l1.length : Int) != a0)) else (spec_IsInvertible.j0 k a0 l1 true))
theorem spec_IsInvertible.calls (k : Nat) (a0 : Int) (A1 : Option Addr) (c1 : Nat) (l1 : List Int) (r : Bool) (w : World) (hr1 : Kd.C (Kd.int .i64) w A1 l1.length l1) (hc1 : l1.length ≤ c1) (h : spec_IsInvertible.f k a0 l1 = some r) :
  Calls Try.prog 30 #[.int .i64 a0, .slice A1 l1.length c1] w fun e w' => e = .returned (.bool r) ∧ Below w.heap.size w w' := by
 have HR1 := M.A_ hr1; have HC1 := M.A_ hc1; clear hr1 hc1
 have HB := M.A_ (Below.refl w.heap.size w)
 unfold spec_IsInvertible.f at h; have H := h
 clear h; have HC3 := M.A_ H; clear H
 go_enter Try.func30, Try.ntmps30
 go_upto_region 1 with (fail)
 repeat (go_quiet (fail); go_upto_region 1 with (fail))
 go_cut [14] (fun v14 wc => ∃ (kq : Nat) (x14_2 : Bool), v14 = .bool x14_2 ∧ Aside0 (spec_IsInvertible.j0 kq a0 l1 x14_2 = some r) ∧ Aside0 (kq ≤ k) ∧ Aside0 (Below w.heap.size w wc))
 case first =>
  have H := HC3.out
  clear HC3; obtain ⟨t242, A4, H⟩ := M.ob_ H; (try dsimp only at H)
  by_cases c5 : t242 = true
  ·subst c5
   rw [if_pos rfl] at H; (try dsimp only at H)
   have H' := M.A_ H
   clear H
   go_wp2_with (first | (go_at_call 44; (with_reducible refine (spec_l1In.calls a0 0 5 true _ A4.out).mono ?_); rintro e w' ⟨rfl, ⟨nd, rfl⟩⟩; (try first | exact ⟨rfl, _, World.drewN_drewN _ _ _⟩ | exact ⟨rfl, _, Eq.trans (World.drewN_drewN _ _ _) (congrArg (World.drewN _) (Nat.add_assoc _ _ _))⟩)))
   repeat (go_quiet (first | (go_at_call 44; (with_reducible refine (spec_l1In.calls a0 0 5 true _ A4.out).mono ?_); rintro e w' ⟨rfl, ⟨nd, rfl⟩⟩; (try first | exact ⟨rfl, _, World.drewN_drewN _ _ _⟩ | exact ⟨rfl, _, Eq.trans (World.drewN_drewN _ _ _) (congrArg (World.drewN _) (Nat.add_assoc _ _ _))⟩))); try go_wp2_with (first | (go_at_call 44; (with_reducible refine (spec_l1In.calls a0 0 5 true _ A4.out).mono ?_); rintro e w' ⟨rfl, ⟨nd, rfl⟩⟩; (try first | exact ⟨rfl, _, World.drewN_drewN _ _ _⟩ | exact ⟨rfl, _, Eq.trans (World.drewN_drewN _ _ _) (congrArg (World.drewN _) (Nat.add_assoc _ _ _))⟩))))
   go_meet
   case rel => exact ⟨_, (((l1.length : Int) != a0)), (by first | rfl | (simp; done) | (simp [*]; done)), H', ⟨by first | omega | exact Nat.le_refl _⟩, ⟨M.Lw HB⟩⟩
  ·replace c5 := Bool.eq_false_iff.mpr c5
   subst c5
   rw [if_neg (show ¬ (false = true) by decide)] at H; (try dsimp only at H)
   have H' := M.A_ H
   clear H
   go_wp2_with (first | (go_at_call 44; (with_reducible refine (spec_l1In.calls a0 0 5 false _ A4.out).mono ?_); rintro e w' ⟨rfl, ⟨nd, rfl⟩⟩; (try first | exact ⟨rfl, _, World.drewN_drewN _ _ _⟩ | exact ⟨rfl, _, Eq.trans (World.drewN_drewN _ _ _) (congrArg (World.drewN _) (Nat.add_assoc _ _ _))⟩)))
   repeat (go_quiet (first | (go_at_call 44; (with_reducible refine (spec_l1In.calls a0 0 5 false _ A4.out).mono ?_); rintro e w' ⟨rfl, ⟨nd, rfl⟩⟩; (try first | exact ⟨rfl, _, World.drewN_drewN _ _ _⟩ | exact ⟨rfl, _, Eq.trans (World.drewN_drewN _ _ _) (congrArg (World.drewN _) (Nat.add_assoc _ _ _))⟩))); try go_wp2_with (first | (go_at_call 44; (with_reducible refine (spec_l1In.calls a0 0 5 false _ A4.out).mono ?_); rintro e w' ⟨rfl, ⟨nd, rfl⟩⟩; (try first | exact ⟨rfl, _, World.drewN_drewN _ _ _⟩ | exact ⟨rfl, _, Eq.trans (World.drewN_drewN _ _ _) (congrArg (World.drewN _) (Nat.add_assoc _ _ _))⟩))))
   go_meet
   case rel => exact ⟨_, (true), (by first | rfl | (simp; done) | (simp [*]; done)), H', ⟨by first | omega | exact Nat.le_refl _⟩, ⟨M.Lw HB⟩⟩
 case rest =>
  clear HC3; (try clear c1); (try clear p2); (try clear c3); (try clear c5); obtain ⟨kq, x14_2, rfl, HA, HJ2, HB⟩ := hcut
  cases kq with
  | zero => exact absurd HA.out (by simp [spec_IsInvertible.j0])
  | succ kj2 =>
   have H := HA.out
   clear HA
   simp only [spec_IsInvertible.j0] at H
   by_cases c6 : x14_2 = true
   ·subst c6
    rw [if_pos rfl] at H; (try dsimp only at H)
    obtain rfl := Option.some.inj H
    go_wp2
    repeat (go_quiet (fail); try go_wp2)
    go_ret
    exact ⟨by first | rfl | (simp [*, errW_none, errW_some] <;> rfl), M.Lw HB⟩
   ·replace c6 := Bool.eq_false_iff.mpr c6
    subst c6
    rw [if_neg (show ¬ (false = true) by decide)] at H; (try dsimp only at H)
    have H' := M.A_ H
    clear H
    go_wp2
    repeat (go_quiet (fail); try go_wp2)
    go_loopg [5] kj2 (fun kq v5 w' => ∃ (x5_2 : Int), v5 = .int .i64 x5_2 ∧ Aside0 (spec_IsInvertible.l0 kq a0 l1 x5_2 = some r) ∧ Aside0 (kq ≤ kj2) ∧ Aside0 (Below w.heap.size w w'))
    case atStart => exact ⟨(0), (by first | rfl | (simp; done) | (simp [*]; done)), H', ⟨Nat.le_refl _⟩, ⟨M.Lw HB⟩⟩
    case round =>
     clear H'; (try clear c1); (try clear p2); (try clear c3); (try clear c5); (try clear c6); (try clear p2); obtain ⟨x5_2, rfl, HA, HK2, HB⟩ := hrel
     cases gk with
     | zero => exact absurd HA.out (by simp [spec_IsInvertible.l0])
     | succ k2 =>
      have H := HA.out
      clear HA
      simp only [spec_IsInvertible.l0] at H
      by_cases c7 : x5_2 < a0
      ·rw [if_pos c7] at H
       have c7b0 : decide (x5_2 < a0) = true := decide_eq_true c7
       clear c7
       by_cases c8 : 0 ≤ x5_2
       ·rw [if_pos c8] at H
        have c8b0 : decide (0 ≤ x5_2) = true := decide_eq_true c8
        clear c8
        by_cases c9 : x5_2 < (l1.length : Int)
        ·rw [if_pos c9] at H
         have c9b0 : decide (x5_2 < (l1.length : Int)) = true := decide_eq_true c9
         clear c9
         by_cases c10 : 0 ≤ a0
         ·rw [if_pos c10] at H
          have c10b0 := eq_true c10
          have c10b1 : decide (0 ≤ a0) = true := decide_eq_true c10
          clear c10
          obtain ⟨ji11, hji11⟩ : ∃ j_ : Int, (shl .i64 1 a0) = j_ := ⟨_, rfl⟩
          replace H : ((spec_l1In.f (rd l1 x5_2) 0 (wrap64 ((ji11) - 1))).bind fun t244 => (if t244 = true then (spec_IsInvertible.l0 k2 a0 l1 (wrap64 (x5_2 + 1))) else (some false))) = some r := by first | (rw [hji11] at H; exact H) | (simp only [hji11] at H ⊢; exact H)
          have hji11_ : (IntKind.i64.wrap (1 * 2 ^ min a0.toNat 64)) = ji11 := hji11
          have hji11z : a0 ≤ 64 → (IntKind.i64.wrap (1 * 2 ^ a0.toNat)) = ji11 := shl_small hji11
          have hji11u : (IntKind.i64.wrap (2 ^ min a0.toNat 64)) = ji11 := by have h_ := hji11_; rw [Int.one_mul] at h_; exact h_
          have hji11v : a0 ≤ 64 → (IntKind.i64.wrap (2 ^ a0.toNat)) = ji11 := fun hle_ => by have h_ := hji11z hle_; rw [Int.one_mul] at h_; exact h_
          have hji11y : (wrap64 (1 * 2 ^ min a0.toNat 64)) = ji11 := (i64_w _).symm.trans hji11_
          have hji11x : a0 ≤ 64 → (wrap64 (1 * 2 ^ a0.toNat)) = ji11 := fun h_ => (i64_w _).symm.trans (hji11z h_)
          replace H := Option.bind_eq_some_iff.mp H; obtain ⟨t244, A120, H⟩ := H
          replace H : (if t244 = true then (spec_IsInvertible.l0 k2 a0 l1 (wrap64 (x5_2 + 1))) else (some false)) = some r := H
          have A12 := M.A_ A120; clear A120
          by_cases c13 : t244 = true
          ·subst c13
           rw [if_pos rfl] at H; (try dsimp only at H)
           have H' := M.A_ H
           clear H
           have p243 : 0 ≤ (x5_2 : Int) := of_decide_eq_true (by first | (with_reducible assumption) | assumption)
           have q243 : x5_2 < (l1.length : Int) := of_decide_eq_true (by first | (with_reducible assumption) | assumption)
           obtain ⟨ad243, e243, hx243_0⟩ := Kd.at_int HR1.out x5_2 p243 q243
           cases e243
           replace hx243_0 := (HB.out.cell (World.block_lt_of_cell? w _ hx243_0)).trans hx243_0
           replace p243 := eq_true p243
           replace q243 := eq_true q243
           go_wp2_with (first | (go_at_call 44; (with_reducible refine (spec_l1In.calls (rd l1 x5_2) 0 (wrap64 ((ji11) - 1)) true _ A12.out).mono ?_); rintro e w' ⟨rfl, ⟨nd, rfl⟩⟩; (try first | exact ⟨rfl, _, World.drewN_drewN _ _ _⟩ | exact ⟨rfl, _, Eq.trans (World.drewN_drewN _ _ _) (congrArg (World.drewN _) (Nat.add_assoc _ _ _))⟩)))
           repeat (go_quiet (first | (go_at_call 44; (with_reducible refine (spec_l1In.calls (rd l1 x5_2) 0 (wrap64 ((ji11) - 1)) true _ A12.out).mono ?_); rintro e w' ⟨rfl, ⟨nd, rfl⟩⟩; (try first | exact ⟨rfl, _, World.drewN_drewN _ _ _⟩ | exact ⟨rfl, _, Eq.trans (World.drewN_drewN _ _ _) (congrArg (World.drewN _) (Nat.add_assoc _ _ _))⟩))); try go_wp2_with (first | (go_at_call 44; (with_reducible refine (spec_l1In.calls (rd l1 x5_2) 0 (wrap64 ((ji11) - 1)) true _ A12.out).mono ?_); rintro e w' ⟨rfl, ⟨nd, rfl⟩⟩; (try first | exact ⟨rfl, _, World.drewN_drewN _ _ _⟩ | exact ⟨rfl, _, Eq.trans (World.drewN_drewN _ _ _) (congrArg (World.drewN _) (Nat.add_assoc _ _ _))⟩))))
           go_roundg k2
           case measure => have := HJ2.out; have := HK2.out; omega
           case rel => exact ⟨(wrap64 (x5_2 + 1)), (by first | rfl | (simp; done) | (simp [*]; done)), H', ⟨by have := HJ2.out; have := HK2.out; omega⟩, ⟨M.Lw HB⟩⟩
          ·replace c13 := Bool.eq_false_iff.mpr c13
           subst c13
           rw [if_neg (show ¬ (false = true) by decide)] at H; (try dsimp only at H)
           obtain rfl := Option.some.inj H
           have p243 : 0 ≤ (x5_2 : Int) := of_decide_eq_true (by first | (with_reducible assumption) | assumption)
           have q243 : x5_2 < (l1.length : Int) := of_decide_eq_true (by first | (with_reducible assumption) | assumption)
           obtain ⟨ad243, e243, hx243_0⟩ := Kd.at_int HR1.out x5_2 p243 q243
           cases e243
           replace hx243_0 := (HB.out.cell (World.block_lt_of_cell? w _ hx243_0)).trans hx243_0
           replace p243 := eq_true p243
           replace q243 := eq_true q243
           go_wp2_with (first | (go_at_call 44; (with_reducible refine (spec_l1In.calls (rd l1 x5_2) 0 (wrap64 ((ji11) - 1)) false _ A12.out).mono ?_); rintro e w' ⟨rfl, ⟨nd, rfl⟩⟩; (try first | exact ⟨rfl, _, World.drewN_drewN _ _ _⟩ | exact ⟨rfl, _, Eq.trans (World.drewN_drewN _ _ _) (congrArg (World.drewN _) (Nat.add_assoc _ _ _))⟩)))
           repeat (go_quiet (first | (go_at_call 44; (with_reducible refine (spec_l1In.calls (rd l1 x5_2) 0 (wrap64 ((ji11) - 1)) false _ A12.out).mono ?_); rintro e w' ⟨rfl, ⟨nd, rfl⟩⟩; (try first | exact ⟨rfl, _, World.drewN_drewN _ _ _⟩ | exact ⟨rfl, _, Eq.trans (World.drewN_drewN _ _ _) (congrArg (World.drewN _) (Nat.add_assoc _ _ _))⟩))); try go_wp2_with (first | (go_at_call 44; (with_reducible refine (spec_l1In.calls (rd l1 x5_2) 0 (wrap64 ((ji11) - 1)) false _ A12.out).mono ?_); rintro e w' ⟨rfl, ⟨nd, rfl⟩⟩; (try first | exact ⟨rfl, _, World.drewN_drewN _ _ _⟩ | exact ⟨rfl, _, Eq.trans (World.drewN_drewN _ _ _) (congrArg (World.drewN _) (Nat.add_assoc _ _ _))⟩))))
           go_ret
           exact ⟨by first | rfl | (simp [errW_none, errW_some] <;> rfl) | (simp only [← hji11]; first | rfl | (simp [errW_none, errW_some] <;> rfl)) | (simp [*, errW_none, errW_some] <;> rfl), M.Lw HB⟩
         ·rw [if_neg c10] at H
          exact absurd H (by simp)
        ·rw [if_neg c9] at H
         exact absurd H (by simp)
       ·rw [if_neg c8] at H
        exact absurd H (by simp)
      ·rw [if_neg c7] at H
       have c7b0 : decide (x5_2 < a0) = false := decide_eq_false c7
       clear c7; replace H := Option.bind_eq_some_iff.mp H; obtain ⟨t245, A140, H⟩ := H
       replace H : (some (t245 == a0)) = some r := H
       have A14 := M.A_ A140; clear A140
       obtain rfl := Option.some.inj H
       go_wp2_with (first | (go_at_call 62; (with_reducible refine (spec_RankMod2.calls k2 _ _ l1 t245 _ ?side1 ?side2 A14.out).mono ?_); (case side1 => exact M.Lc (Kd.C_below HR1.out HB.out)); (case side2 => exact HC1.out); rintro e w15 ⟨rfl, hb⟩; have n0_ := M.A_ (below_step (M.Lw HB) hb); clear HB; have HB := n0_; clear n0_; (try clear hb); (try clear hb2); (try clear hk); (try clear hi)))
       repeat (go_quiet (first | (go_at_call 62; (with_reducible refine (spec_RankMod2.calls k2 _ _ l1 t245 _ ?side1 ?side2 A14.out).mono ?_); (case side1 => exact M.Lc (Kd.C_below HR1.out HB.out)); (case side2 => exact HC1.out); rintro e w15 ⟨rfl, hb⟩; have n0_ := M.A_ (below_step (M.Lw HB) hb); clear HB; have HB := n0_; clear n0_; (try clear hb); (try clear hb2); (try clear hk); (try clear hi))); try go_wp2_with (first | (go_at_call 62; (with_reducible refine (spec_RankMod2.calls k2 _ _ l1 t245 _ ?side1 ?side2 A14.out).mono ?_); (case side1 => exact M.Lc (Kd.C_below HR1.out HB.out)); (case side2 => exact HC1.out); rintro e w15 ⟨rfl, hb⟩; have n0_ := M.A_ (below_step (M.Lw HB) hb); clear HB; have HB := n0_; clear n0_; (try clear hb); (try clear hb2); (try clear hk); (try clear hi))))
       go_ret
       exact ⟨by first | rfl | (simp [*, errW_none, errW_some] <;> rfl), M.Lw HB⟩
def spec_IsTable.f (a0_0 : Int) (a0_1 : Int) : Option (Bool) := (spec_l1In.f a0_0 0 5).bind fun t247 => (if t247 = true then (if 0 ≤ a0_0 then ((spec_l1In.f a0_1 0 (wrap64 ((shl .i64 1 (shl .u64 1 a0_0)) - 1))).bind fun t248 => (some t248)) else (none)) else (some false))
theorem spec_IsTable.calls (a0_0 : Int) (a0_1 : Int) (r : Bool) (w : World) (h : spec_IsTable.f a0_0 a0_1 = some r) :
  Calls Try.prog 43 #[.agg #[.int .i64 a0_0, .int .i64 a0_1]] w fun e w' => e = .returned (.bool r) ∧ Below w.heap.size w w' := by
 have hu25 := Try.underlying25
 have HB := M.A_ (Below.refl w.heap.size w)
 unfold spec_IsTable.f at h; have H := h
 clear h; obtain ⟨t247, A2, H⟩ := M.ob_ H; (try dsimp only at H)
 by_cases c3 : t247 = true
 ·subst c3
  rw [if_pos rfl] at H; (try dsimp only at H)
  by_cases c4 : 0 ≤ a0_0
  ·rw [if_pos c4] at H
   have c4b0 := eq_true c4
   have c4b1 : decide (0 ≤ a0_0) = true := decide_eq_true c4
   clear c4
   obtain ⟨ji5, hji5⟩ : ∃ j_ : Int, (shl .u64 1 a0_0) = j_ := ⟨_, rfl⟩
   replace H : ((spec_l1In.f a0_1 0 (wrap64 ((shl .i64 1 (ji5)) - 1))).bind fun t248 => (some t248)) = some r := by first | (rw [hji5] at H; exact H) | (simp only [hji5] at H ⊢; exact H)
   (try rw [hji5] at A2)
   have hji5_ : (IntKind.u64.wrap (1 * 2 ^ min a0_0.toNat 64)) = ji5 := hji5
   have hji5z : a0_0 ≤ 64 → (IntKind.u64.wrap (1 * 2 ^ a0_0.toNat)) = ji5 := shl_small hji5
   have hji5n0 : 0 ≤ ji5 := by rw [← hji5]; exact shl_u_nn _ _
   have hji5n1 := eq_true hji5n0
   have hji5n2 : decide (0 ≤ ji5) = true := decide_eq_true hji5n0
   have hji5u : (IntKind.u64.wrap (2 ^ min a0_0.toNat 64)) = ji5 := by have h_ := hji5_; rw [Int.one_mul] at h_; exact h_
   have hji5v : a0_0 ≤ 64 → (IntKind.u64.wrap (2 ^ a0_0.toNat)) = ji5 := fun hle_ => by have h_ := hji5z hle_; rw [Int.one_mul] at h_; exact h_
   obtain ⟨ji6, hji6⟩ : ∃ j_ : Int, (shl .i64 1 (ji5)) = j_ := ⟨_, rfl⟩
   replace H : ((spec_l1In.f a0_1 0 (wrap64 ((ji6) - 1))).bind fun t248 => (some t248)) = some r := by first | (rw [hji6] at H; exact H) | (simp only [hji6] at H ⊢; exact H)
   (try rw [hji6] at A2)
   have hji6_ : (IntKind.i64.wrap (1 * 2 ^ min (ji5).toNat 64)) = ji6 := hji6
   have hji6z : (ji5) ≤ 64 → (IntKind.i64.wrap (1 * 2 ^ (ji5).toNat)) = ji6 := shl_small hji6
   have hji6u : (IntKind.i64.wrap (2 ^ min (ji5).toNat 64)) = ji6 := by have h_ := hji6_; rw [Int.one_mul] at h_; exact h_
   have hji6v : (ji5) ≤ 64 → (IntKind.i64.wrap (2 ^ (ji5).toNat)) = ji6 := fun hle_ => by have h_ := hji6z hle_; rw [Int.one_mul] at h_; exact h_
   have hji6y : (wrap64 (1 * 2 ^ min (ji5).toNat 64)) = ji6 := (i64_w _).symm.trans hji6_
   have hji6x : (ji5) ≤ 64 → (wrap64 (1 * 2 ^ (ji5).toNat)) = ji6 := fun h_ => (i64_w _).symm.trans (hji6z h_)
   replace H := Option.bind_eq_some_iff.mp H; obtain ⟨t248, A70, H⟩ := H
   replace H : (some t248) = some r := H
   have A7 := M.A_ A70; clear A70
   obtain rfl := Option.some.inj H
   go_enter Try.func43, Try.ntmps43
   go_wp2_with (first | ((with_reducible refine gate_dst (N := 1) rfl ?_); refine box_event ?hg (N := 1) ?hd (cs := #[.int .i64 a0_0, .int .i64 a0_1]) (t := 25) ?hr ?_; (case hd => rfl); (case hg => rfl); (case hr => first | (go_simp; done) | (go_simp; rfl)); intro gb246 hg w8 hbox hb; have n0_ := M.A_ (below_step (M.Lw HB) hb); have n1_ := M.A_ (hbox); have n2_ := M.A_ ((by rw [hg]; exact (below_size (M.Lw HB)) : w.heap.size ≤ gb246)); have n3_ := M.A_ ((by rw [hg]; exact (below_size (M.Lw HB)) : w.heap.size ≤ gb246)); clear HB; have HB := n0_; have BK246 := n1_; have GW246 := n2_; have GE246 := n3_; clear n0_ n1_ n2_ n3_; clear hb hbox hg; have hcz9_0 : w8.cell? ⟨gb246, 0, none⟩ = some (.int .i64 a0_0) := (blk_cell BK246.out 0).trans rfl; have hcz9_1 : w8.cell? ⟨gb246, 1, none⟩ = some (.int .i64 a0_1) := (blk_cell BK246.out 1).trans rfl; have hfz9_0 := blk_frozen BK246.out 0; have hfz9_1 := blk_frozen BK246.out 1) | (go_at_call 44; (with_reducible refine (spec_l1In.calls a0_0 0 5 true _ A2.out).mono ?_); rintro e w' ⟨rfl, ⟨nd, rfl⟩⟩; (try first | exact ⟨rfl, _, World.drewN_drewN _ _ _⟩ | exact ⟨rfl, _, Eq.trans (World.drewN_drewN _ _ _) (congrArg (World.drewN _) (Nat.add_assoc _ _ _))⟩)) | (go_at_call 44; (with_reducible refine (spec_l1In.calls a0_1 0 (wrap64 ((ji6) - 1)) t248 _ A7.out).mono ?_); rintro e w' ⟨rfl, ⟨nd, rfl⟩⟩; (try first | exact ⟨rfl, _, World.drewN_drewN _ _ _⟩ | exact ⟨rfl, _, Eq.trans (World.drewN_drewN _ _ _) (congrArg (World.drewN _) (Nat.add_assoc _ _ _))⟩)))
   repeat (go_quiet (first | ((with_reducible refine gate_dst (N := 1) rfl ?_); refine box_event ?hg (N := 1) ?hd (cs := #[.int .i64 a0_0, .int .i64 a0_1]) (t := 25) ?hr ?_; (case hd => rfl); (case hg => rfl); (case hr => first | (go_simp; done) | (go_simp; rfl)); intro gb246 hg w8 hbox hb; have n0_ := M.A_ (below_step (M.Lw HB) hb); have n1_ := M.A_ (hbox); have n2_ := M.A_ ((by rw [hg]; exact (below_size (M.Lw HB)) : w.heap.size ≤ gb246)); have n3_ := M.A_ ((by rw [hg]; exact (below_size (M.Lw HB)) : w.heap.size ≤ gb246)); clear HB; have HB := n0_; have BK246 := n1_; have GW246 := n2_; have GE246 := n3_; clear n0_ n1_ n2_ n3_; clear hb hbox hg; have hcz9_0 : w8.cell? ⟨gb246, 0, none⟩ = some (.int .i64 a0_0) := (blk_cell BK246.out 0).trans rfl; have hcz9_1 : w8.cell? ⟨gb246, 1, none⟩ = some (.int .i64 a0_1) := (blk_cell BK246.out 1).trans rfl; have hfz9_0 := blk_frozen BK246.out 0; have hfz9_1 := blk_frozen BK246.out 1) | (go_at_call 44; (with_reducible refine (spec_l1In.calls a0_0 0 5 true _ A2.out).mono ?_); rintro e w' ⟨rfl, ⟨nd, rfl⟩⟩; (try first | exact ⟨rfl, _, World.drewN_drewN _ _ _⟩ | exact ⟨rfl, _, Eq.trans (World.drewN_drewN _ _ _) (congrArg (World.drewN _) (Nat.add_assoc _ _ _))⟩)) | (go_at_call 44; (with_reducible refine (spec_l1In.calls a0_1 0 (wrap64 ((ji6) - 1)) t248 _ A7.out).mono ?_); rintro e w' ⟨rfl, ⟨nd, rfl⟩⟩; (try first | exact ⟨rfl, _, World.drewN_drewN _ _ _⟩ | exact ⟨rfl, _, Eq.trans (World.drewN_drewN _ _ _) (congrArg (World.drewN _) (Nat.add_assoc _ _ _))⟩))); try go_wp2_with (first | ((with_reducible refine gate_dst (N := 1) rfl ?_); refine box_event ?hg (N := 1) ?hd (cs := #[.int .i64 a0_0, .int .i64 a0_1]) (t := 25) ?hr ?_; (case hd => rfl); (case hg => rfl); (case hr => first | (go_simp; done) | (go_simp; rfl)); intro gb246 hg w8 hbox hb; have n0_ := M.A_ (below_step (M.Lw HB) hb); have n1_ := M.A_ (hbox); have n2_ := M.A_ ((by rw [hg]; exact (below_size (M.Lw HB)) : w.heap.size ≤ gb246)); have n3_ := M.A_ ((by rw [hg]; exact (below_size (M.Lw HB)) : w.heap.size ≤ gb246)); clear HB; have HB := n0_; have BK246 := n1_; have GW246 := n2_; have GE246 := n3_; clear n0_ n1_ n2_ n3_; clear hb hbox hg; have hcz9_0 : w8.cell? ⟨gb246, 0, none⟩ = some (.int .i64 a0_0) := (blk_cell BK246.out 0).trans rfl; have hcz9_1 : w8.cell? ⟨gb246, 1, none⟩ = some (.int .i64 a0_1) := (blk_cell BK246.out 1).trans rfl; have hfz9_0 := blk_frozen BK246.out 0; have hfz9_1 := blk_frozen BK246.out 1) | (go_at_call 44; (with_reducible refine (spec_l1In.calls a0_0 0 5 true _ A2.out).mono ?_); rintro e w' ⟨rfl, ⟨nd, rfl⟩⟩; (try first | exact ⟨rfl, _, World.drewN_drewN _ _ _⟩ | exact ⟨rfl, _, Eq.trans (World.drewN_drewN _ _ _) (congrArg (World.drewN _) (Nat.add_assoc _ _ _))⟩)) | (go_at_call 44; (with_reducible refine (spec_l1In.calls a0_1 0 (wrap64 ((ji6) - 1)) t248 _ A7.out).mono ?_); rintro e w' ⟨rfl, ⟨nd, rfl⟩⟩; (try first | exact ⟨rfl, _, World.drewN_drewN _ _ _⟩ | exact ⟨rfl, _, Eq.trans (World.drewN_drewN _ _ _) (congrArg (World.drewN _) (Nat.add_assoc _ _ _))⟩))))
   go_ret
   exact ⟨by first | rfl | (simp [errW_none, errW_some] <;> rfl) | (simp only [← hji5, ← hji6]; first | rfl | (simp [errW_none, errW_some] <;> rfl)) | (simp [*, errW_none, errW_some] <;> rfl), M.Lw HB⟩
  ·rw [if_neg c4] at H
   exact absurd H (by simp)
 ·replace c3 := Bool.eq_false_iff.mpr c3
  subst c3
  rw [if_neg (show ¬ (false = true) by decide)] at H; (try dsimp only at H)
  obtain rfl := Option.some.inj H
  go_enter Try.func43, Try.ntmps43
  go_wp2_with (first | ((with_reducible refine gate_dst (N := 1) rfl ?_); refine box_event ?hg (N := 1) ?hd (cs := #[.int .i64 a0_0, .int .i64 a0_1]) (t := 25) ?hr ?_; (case hd => rfl); (case hg => rfl); (case hr => first | (go_simp; done) | (go_simp; rfl)); intro gb246 hg w10 hbox hb; have n0_ := M.A_ (below_step (M.Lw HB) hb); have n1_ := M.A_ (hbox); have n2_ := M.A_ ((by rw [hg]; exact (below_size (M.Lw HB)) : w.heap.size ≤ gb246)); have n3_ := M.A_ ((by rw [hg]; exact (below_size (M.Lw HB)) : w.heap.size ≤ gb246)); clear HB; have HB := n0_; have BK246 := n1_; have GW246 := n2_; have GE246 := n3_; clear n0_ n1_ n2_ n3_; clear hb hbox hg; have hcz11_0 : w10.cell? ⟨gb246, 0, none⟩ = some (.int .i64 a0_0) := (blk_cell BK246.out 0).trans rfl; have hcz11_1 : w10.cell? ⟨gb246, 1, none⟩ = some (.int .i64 a0_1) := (blk_cell BK246.out 1).trans rfl; have hfz11_0 := blk_frozen BK246.out 0; have hfz11_1 := blk_frozen BK246.out 1) | (go_at_call 44; (with_reducible refine (spec_l1In.calls a0_0 0 5 false _ A2.out).mono ?_); rintro e w' ⟨rfl, ⟨nd, rfl⟩⟩; (try first | exact ⟨rfl, _, World.drewN_drewN _ _ _⟩ | exact ⟨rfl, _, Eq.trans (World.drewN_drewN _ _ _) (congrArg (World.drewN _) (Nat.add_assoc _ _ _))⟩)))
  repeat (go_quiet (first | ((with_reducible refine gate_dst (N := 1) rfl ?_); refine box_event ?hg (N := 1) ?hd (cs := #[.int .i64 a0_0, .int .i64 a0_1]) (t := 25) ?hr ?_; (case hd => rfl); (case hg => rfl); (case hr => first | (go_simp; done) | (go_simp; rfl)); intro gb246 hg w10 hbox hb; have n0_ := M.A_ (below_step (M.Lw HB) hb); have n1_ := M.A_ (hbox); have n2_ := M.A_ ((by rw [hg]; exact (below_size (M.Lw HB)) : w.heap.size ≤ gb246)); have n3_ := M.A_ ((by rw [hg]; exact (below_size (M.Lw HB)) : w.heap.size ≤ gb246)); clear HB; have HB := n0_; have BK246 := n1_; have GW246 := n2_; have GE246 := n3_; clear n0_ n1_ n2_ n3_; clear hb hbox hg; have hcz11_0 : w10.cell? ⟨gb246, 0, none⟩ = some (.int .i64 a0_0) := (blk_cell BK246.out 0).trans rfl; have hcz11_1 : w10.cell? ⟨gb246, 1, none⟩ = some (.int .i64 a0_1) := (blk_cell BK246.out 1).trans rfl; have hfz11_0 := blk_frozen BK246.out 0; have hfz11_1 := blk_frozen BK246.out 1) | (go_at_call 44; (with_reducible refine (spec_l1In.calls a0_0 0 5 false _ A2.out).mono ?_); rintro e w' ⟨rfl, ⟨nd, rfl⟩⟩; (try first | exact ⟨rfl, _, World.drewN_drewN _ _ _⟩ | exact ⟨rfl, _, Eq.trans (World.drewN_drewN _ _ _) (congrArg (World.drewN _) (Nat.add_assoc _ _ _))⟩))); try go_wp2_with (first | ((with_reducible refine gate_dst (N := 1) rfl ?_); refine box_event ?hg (N := 1) ?hd (cs := #[.int .i64 a0_0, .int .i64 a0_1]) (t := 25) ?hr ?_; (case hd => rfl); (case hg => rfl); (case hr => first | (go_simp; done) | (go_simp; rfl)); intro gb246 hg w10 hbox hb; have n0_ := M.A_ (below_step (M.Lw HB) hb); have n1_ := M.A_ (hbox); have n2_ := M.A_ ((by rw [hg]; exact (below_size (M.Lw HB)) : w.heap.size ≤ gb246)); have n3_ := M.A_ ((by rw [hg]; exact (below_size (M.Lw HB)) : w.heap.size ≤ gb246)); clear HB; have HB := n0_; have BK246 := n1_; have GW246 := n2_; have GE246 := n3_; clear n0_ n1_ n2_ n3_; clear hb hbox hg; have hcz11_0 : w10.cell? ⟨gb246, 0, none⟩ = some (.int .i64 a0_0) := (blk_cell BK246.out 0).trans rfl; have hcz11_1 : w10.cell? ⟨gb246, 1, none⟩ = some (.int .i64 a0_1) := (blk_cell BK246.out 1).trans rfl; have hfz11_0 := blk_frozen BK246.out 0; have hfz11_1 := blk_frozen BK246.out 1) | (go_at_call 44; (with_reducible refine (spec_l1In.calls a0_0 0 5 false _ A2.out).mono ?_); rintro e w' ⟨rfl, ⟨nd, rfl⟩⟩; (try first | exact ⟨rfl, _, World.drewN_drewN _ _ _⟩ | exact ⟨rfl, _, Eq.trans (World.drewN_drewN _ _ _) (congrArg (World.drewN _) (Nat.add_assoc _ _ _))⟩))))
  go_ret
  exact ⟨by first | rfl | (simp [*, errW_none, errW_some] <;> rfl), M.Lw HB⟩
def spec_l27Apply.l0 : Nat → List Int → Int → Int → Int → Option (Int)
 | 0, _, _, _, _ => none
 | k + 1, x0, x1, x5, x6 => if x6 < (x0.length : Int) then (if 0 ≤ x6 then (if (Go.bits .and .i64 (shr .i64 x1 x6) 1) = 1 then (spec_l27Apply.l0 k x0 x1 (Go.bits .xor .i64 x5 (rd x0 x6)) (wrap64 (x6 + 1))) else (spec_l27Apply.l0 k x0 x1 x5 (wrap64 (x6 + 1)))) else (none)) else (some x5)
def spec_l27Apply.f (k : Nat) (l0 : List Int) (a1 : Int) : Option (Int) := spec_l27Apply.l0 k l0 a1 0 0
theorem spec_l27Apply.calls (k : Nat) (A0 : Option Addr) (c0 : Nat) (l0 : List Int) (a1 : Int) (r : Int) (w : World) (hr0 : Kd.C (Kd.int .i64) w A0 l0.length l0) (hc0 : l0.length ≤ c0) (h : spec_l27Apply.f k l0 a1 = some r) :
  Calls Try.prog 45 #[.slice A0 l0.length c0, .int .i64 a1] w fun e w' => e = .returned (.int .i64 r) ∧ Drawn0 w w' := by
 have HR0 := M.A_ hr0; have HC0 := M.A_ hc0; clear hr0 hc0
 have H : (spec_l27Apply.l0 k l0 a1 0 0) = some r := h
 clear h
 have H' := M.A_ H
 clear H
 go_enter Try.func45, Try.ntmps45
 go_wp2
 go_loopg [5, 6] k (fun kq v5 v6 w' => ∃ (x5_1 : Int) (x6_1 : Int), v5 = .int .i64 x5_1 ∧ v6 = .int .i64 x6_1 ∧ Aside0 (spec_l27Apply.l0 kq l0 a1 x5_1 x6_1 = some r) ∧ Aside0 (kq ≤ k) ∧ Drawn0 w w')
 case atStart => exact ⟨(0), (0), (by first | rfl | (simp; done) | (simp [*]; done)), (by first | rfl | (simp; done) | (simp [*]; done)), H', ⟨Nat.le_refl _⟩, by repeat (first | exact Drawn0.refl _ | apply Drawn0.step)⟩
 case round =>
  clear H'; (try clear p2)
  obtain ⟨x5_1, x6_1, rfl, rfl, HA, HK1, ⟨m1, rfl⟩⟩ := hrel
  cases gk with
  | zero => exact absurd HA.out (by simp [spec_l27Apply.l0])
  | succ k1 =>
   have H := HA.out
   clear HA
   simp only [spec_l27Apply.l0] at H
   by_cases c3 : x6_1 < (l0.length : Int)
   ·rw [if_pos c3] at H
    have c3b0 : decide (x6_1 < (l0.length : Int)) = true := decide_eq_true c3
    clear c3
    by_cases c4 : 0 ≤ x6_1
    ·rw [if_pos c4] at H
     have c4b0 := eq_true c4
     have c4b1 : decide (0 ≤ x6_1) = true := decide_eq_true c4
     clear c4
     obtain ⟨ji5, hji5⟩ : ∃ j_ : Int, (shr .i64 a1 x6_1) = j_ := ⟨_, rfl⟩
     replace H : (if (Go.bits .and .i64 (ji5) 1) = 1 then (spec_l27Apply.l0 k1 l0 a1 (Go.bits .xor .i64 x5_1 (rd l0 x6_1)) (wrap64 (x6_1 + 1))) else (spec_l27Apply.l0 k1 l0 a1 x5_1 (wrap64 (x6_1 + 1)))) = some r := by first | (rw [hji5] at H; exact H) | (simp only [hji5] at H ⊢; exact H)
     have hji5_ : (a1 / 2 ^ min x6_1.toNat 64) = ji5 := hji5
     have hji5z : x6_1 ≤ 64 → (a1 / 2 ^ x6_1.toNat) = ji5 := shr_small hji5
     by_cases c6 : (Go.bits .and .i64 (ji5) 1) = 1
     ·rw [if_pos c6] at H
      have c6b0 : ((Go.bits .and .i64 (ji5) 1) == 1) = true := beq_iff_eq.mpr c6
      have c6b1 : ((Go.bits .and .i64 (ji5) 1) != 1) = false := bne_eq_false_iff_eq.mpr c6
      clear c6
      have H' := M.A_ H
      clear H
      have p249 : 0 ≤ (x6_1 : Int) := of_decide_eq_true (by first | (with_reducible assumption) | assumption)
      have q249 : x6_1 < (l0.length : Int) := of_decide_eq_true (by first | (with_reducible assumption) | assumption)
      obtain ⟨ad249, e249, hx249_0⟩ := Kd.at_int HR0.out x6_1 p249 q249
      cases e249
      replace p249 := eq_true p249
      replace q249 := eq_true q249
      go_wp2
      go_roundg k1
      case measure => have := HK1.out; omega
      case rel => exact ⟨(Go.bits .xor .i64 x5_1 (rd l0 x6_1)), (wrap64 (x6_1 + 1)), (by first | rfl | (simp; done) | (simp [*]; done)), (by first | rfl | (simp; done) | (simp [*]; done)), H', ⟨by have := HK1.out; omega⟩, by repeat (first | exact Drawn0.refl _ | apply Drawn0.step)⟩
     ·rw [if_neg c6] at H
      have c6b0 : ((Go.bits .and .i64 (ji5) 1) == 1) = false := beq_eq_false_iff_ne.mpr c6
      have c6b1 : ((Go.bits .and .i64 (ji5) 1) != 1) = true := bne_iff_ne.mpr c6
      have H' := M.A_ H
      clear H
      go_wp2
      go_roundg k1
      case measure => have := HK1.out; omega
      case rel => exact ⟨(x5_1), (wrap64 (x6_1 + 1)), (by first | rfl | (simp; done) | (simp [*]; done)), (by first | rfl | (simp; done) | (simp [*]; done)), H', ⟨by have := HK1.out; omega⟩, by repeat (first | exact Drawn0.refl _ | apply Drawn0.step)⟩
    ·rw [if_neg c4] at H
     exact absurd H (by simp)
   ·rw [if_neg c3] at H
    have c3b0 : decide (x6_1 < (l0.length : Int)) = false := decide_eq_false c3
    clear c3
    obtain rfl := Option.some.inj H
    go_wp2
    go_ret
    exact ⟨by first | rfl | (simp; done) | (simp [*]; done), by repeat (first | exact Drawn0.refl _ | apply Drawn0.step)⟩
mutual
def spec_AffineImage.j0 : Nat → List Int → Int → Bool → Int → Int → Option (Int × Int × Bool)
 | 0, _, _, _, _, _ => none
 | k + 1, x1, x2, x28, x251000, x251001 => if x28 = true then (some (0, 0, false)) else (spec_AffineImage.l0 k x1 x2 0 0 x251000 x251001)
def spec_AffineImage.l0 : Nat → List Int → Int → Int → Int → Int → Int → Option (Int × Int × Bool)
 | 0, _, _, _, _, _, _ => none
 | k + 1, x1, x2, x8, x9, x251000, x251001 => if 0 ≤ x251000 then (if x9 < (shl .i64 1 x251000) then ((spec_l27Apply.f k x1 x9).bind fun t255 => (if 0 ≤ (Go.bits .xor .i64 t255 x2) then (if 0 ≤ x9 then (spec_AffineImage.l0 k x1 x2 (Go.bits .or .i64 x8 (shl .i64 (Go.bits .and .i64 (shr .i64 x251001 (Go.bits .xor .i64 t255 x2)) 1) x9)) (wrap64 (x9 + 1)) x251000 x251001) else (none)) else (none))) else (some (x251000, x8, true))) else (none)
end
def spec_AffineImage.f (k : Nat) (a0_0 : Int) (a0_1 : Int) (l1 : List Int) (a2 : Int) : Option (Int × Int × Bool) := (spec_IsTable.f a0_0 a0_1).bind fun t252 => (if t252 = true then ((spec_IsInvertible.f k a0_0 l1).bind fun t253 => (if t253 = true then (if 0 ≤ a0_0 then ((spec_l1In.f a2 0 (wrap64 ((shl .i64 1 a0_0) - 1))).bind fun t254 => (spec_AffineImage.j0 k l1 a2 (!t254) a0_0 a0_1)) else (none)) else (spec_AffineImage.j0 k l1 a2 true a0_0 a0_1))) else (spec_AffineImage.j0 k l1 a2 true a0_0 a0_1))
theorem spec_AffineImage.calls (k : Nat) (a0_0 : Int) (a0_1 : Int) (A1 : Option Addr) (c1 : Nat) (l1 : List Int) (a2 : Int) (r1 : Int) (r2 : Int) (r3 : Bool) (w : World) (hr1 : Kd.C (Kd.int .i64) w A1 l1.length l1) (hc1 : l1.length ≤ c1) (h : spec_AffineImage.f k a0_0 a0_1 l1 a2 = some (r1, r2, r3)) :
  Calls Try.prog 7 #[.agg #[.int .i64 a0_0, .int .i64 a0_1], .slice A1 l1.length c1, .int .i64 a2] w fun e w' => e = .returned (.tuple #[.agg #[.int .i64 r1, .int .i64 r2], .bool r3]) ∧ Below w.heap.size w w' := by
 have hu25 := Try.underlying25
 have HR1 := M.A_ hr1; have HC1 := M.A_ hc1; clear hr1 hc1
 have HB := M.A_ (Below.refl w.heap.size w)
 unfold spec_AffineImage.f at h; have H := h
 clear h; have HC4 := M.A_ H; clear H
 go_enter Try.func7, Try.ntmps7
 go_upto_region 1 with (first | ((with_reducible refine gate_dst (N := 3) rfl ?_); refine box_event ?hg (N := 3) ?hd (cs := #[.int .i64 a0_0, .int .i64 a0_1]) (t := 25) ?hr ?_; (case hd => rfl); (case hg => rfl); (case hr => first | (go_simp; done) | (go_simp; rfl)); intro gb250 hg w5 hbox hb; have n0_ := M.A_ (below_step (M.Lw HB) hb); have n1_ := M.A_ (hbox); have n2_ := M.A_ ((by rw [hg]; exact (below_size (M.Lw HB)) : w.heap.size ≤ gb250)); have n3_ := M.A_ ((by rw [hg]; exact (below_size (M.Lw HB)) : w.heap.size ≤ gb250)); clear HB; have HB := n0_; have BK250 := n1_; have GW250 := n2_; have GE250 := n3_; clear n0_ n1_ n2_ n3_; clear hb hbox hg) | ((with_reducible refine gate_dst (N := 6) rfl ?_); refine box_event ?hg (N := 6) ?hd (cs := #[.int .i64 0, .int .i64 0]) (t := 25) ?hr ?_; (case hd => rfl); (case hg => rfl); (case hr => first | (go_simp; done) | (go_simp; rfl)); intro gb251 hg w6 hbox hb; have n0_ := M.A_ (blk_below (M.Lb BK250) hb); have n1_ := M.A_ (below_step (M.Lw HB) hb); have n2_ := M.A_ (hbox); have n3_ := M.A_ ((by rw [hg]; exact (below_size (M.Lw HB)) : w.heap.size ≤ gb251)); have n4_ := M.A_ ((by rw [hg]; exact (below_size (M.Lw HB)) : w.heap.size ≤ gb251)); have n5_ := M.A_ ((by rw [hg]; exact Nat.ne_of_lt (blk_lt (M.Lb BK250)) : gb250 ≠ gb251)); have n6_ := M.A_ ((by rw [hg]; exact Nat.ne_of_gt (blk_lt (M.Lb BK250)) : gb251 ≠ gb250)); clear BK250; clear HB; have BK250 := n0_; have HB := n1_; have BK251 := n2_; have GW251 := n3_; have GE251 := n4_; have NB250_251 := n5_; have NB251_250 := n6_; clear n0_ n1_ n2_ n3_ n4_ n5_ n6_; clear hb hbox hg))
 repeat (go_quiet (first | ((with_reducible refine gate_dst (N := 3) rfl ?_); refine box_event ?hg (N := 3) ?hd (cs := #[.int .i64 a0_0, .int .i64 a0_1]) (t := 25) ?hr ?_; (case hd => rfl); (case hg => rfl); (case hr => first | (go_simp; done) | (go_simp; rfl)); intro gb250 hg w5 hbox hb; have n0_ := M.A_ (below_step (M.Lw HB) hb); have n1_ := M.A_ (hbox); have n2_ := M.A_ ((by rw [hg]; exact (below_size (M.Lw HB)) : w.heap.size ≤ gb250)); have n3_ := M.A_ ((by rw [hg]; exact (below_size (M.Lw HB)) : w.heap.size ≤ gb250)); clear HB; have HB := n0_; have BK250 := n1_; have GW250 := n2_; have GE250 := n3_; clear n0_ n1_ n2_ n3_; clear hb hbox hg) | ((with_reducible refine gate_dst (N := 6) rfl ?_); refine box_event ?hg (N := 6) ?hd (cs := #[.int .i64 0, .int .i64 0]) (t := 25) ?hr ?_; (case hd => rfl); (case hg => rfl); (case hr => first | (go_simp; done) | (go_simp; rfl)); intro gb251 hg w6 hbox hb; have n0_ := M.A_ (blk_below (M.Lb BK250) hb); have n1_ := M.A_ (below_step (M.Lw HB) hb); have n2_ := M.A_ (hbox); have n3_ := M.A_ ((by rw [hg]; exact (below_size (M.Lw HB)) : w.heap.size ≤ gb251)); have n4_ := M.A_ ((by rw [hg]; exact (below_size (M.Lw HB)) : w.heap.size ≤ gb251)); have n5_ := M.A_ ((by rw [hg]; exact Nat.ne_of_lt (blk_lt (M.Lb BK250)) : gb250 ≠ gb251)); have n6_ := M.A_ ((by rw [hg]; exact Nat.ne_of_gt (blk_lt (M.Lb BK250)) : gb251 ≠ gb250)); clear BK250; clear HB; have BK250 := n0_; have HB := n1_; have BK251 := n2_; have GW251 := n3_; have GE251 := n4_; have NB250_251 := n5_; have NB251_250 := n6_; clear n0_ n1_ n2_ n3_ n4_ n5_ n6_; clear hb hbox hg)); go_upto_region 1 with (first | ((with_reducible refine gate_dst (N := 3) rfl ?_); refine box_event ?hg (N := 3) ?hd (cs := #[.int .i64 a0_0, .int .i64 a0_1]) (t := 25) ?hr ?_; (case hd => rfl); (case hg => rfl); (case hr => first | (go_simp; done) | (go_simp; rfl)); intro gb250 hg w5 hbox hb; have n0_ := M.A_ (below_step (M.Lw HB) hb); have n1_ := M.A_ (hbox); have n2_ := M.A_ ((by rw [hg]; exact (below_size (M.Lw HB)) : w.heap.size ≤ gb250)); have n3_ := M.A_ ((by rw [hg]; exact (below_size (M.Lw HB)) : w.heap.size ≤ gb250)); clear HB; have HB := n0_; have BK250 := n1_; have GW250 := n2_; have GE250 := n3_; clear n0_ n1_ n2_ n3_; clear hb hbox hg) | ((with_reducible refine gate_dst (N := 6) rfl ?_); refine box_event ?hg (N := 6) ?hd (cs := #[.int .i64 0, .int .i64 0]) (t := 25) ?hr ?_; (case hd => rfl); (case hg => rfl); (case hr => first | (go_simp; done) | (go_simp; rfl)); intro gb251 hg w6 hbox hb; have n0_ := M.A_ (blk_below (M.Lb BK250) hb); have n1_ := M.A_ (below_step (M.Lw HB) hb); have n2_ := M.A_ (hbox); have n3_ := M.A_ ((by rw [hg]; exact (below_size (M.Lw HB)) : w.heap.size ≤ gb251)); have n4_ := M.A_ ((by rw [hg]; exact (below_size (M.Lw HB)) : w.heap.size ≤ gb251)); have n5_ := M.A_ ((by rw [hg]; exact Nat.ne_of_lt (blk_lt (M.Lb BK250)) : gb250 ≠ gb251)); have n6_ := M.A_ ((by rw [hg]; exact Nat.ne_of_gt (blk_lt (M.Lb BK250)) : gb251 ≠ gb250)); clear BK250; clear HB; have BK250 := n0_; have HB := n1_; have BK251 := n2_; have GW251 := n3_; have GE251 := n4_; have NB250_251 := n5_; have NB251_250 := n6_; clear n0_ n1_ n2_ n3_ n4_ n5_ n6_; clear hb hbox hg)))
 (try simp only [Act.put, List.setIfInBounds_toArray, List.set_cons_zero, List.set_cons_succ])
 go_cut [28] (fun v28 wc => ∃ (kq : Nat) (x28_3 : Bool), v28 = .bool x28_3 ∧ Aside0 (spec_AffineImage.j0 kq l1 a2 x28_3 a0_0 a0_1 = some (r1, r2, r3)) ∧ Aside0 (kq ≤ k) ∧ Aside0 (wc.heap[gb250]? = some (.cells #[.int .i64 a0_0, .int .i64 a0_1] 25 (0, 0))) ∧ Aside0 (wc.heap[gb251]? = some (.cells #[.int .i64 0, .int .i64 0] 25 (0, 0))) ∧ Aside0 (Below w.heap.size w wc))
 case first =>
  have H := HC4.out
  clear HC4; obtain ⟨t252, A7, H⟩ := M.ob_ H; (try dsimp only at H)
  by_cases c8 : t252 = true
  ·subst c8
   rw [if_pos rfl] at H; (try dsimp only at H); obtain ⟨t253, A9, H⟩ := M.ob_ H; (try dsimp only at H)
   by_cases c10 : t253 = true
   ·subst c10
    rw [if_pos rfl] at H; (try dsimp only at H)
    by_cases c11 : 0 ≤ a0_0
    ·rw [if_pos c11] at H
     have c11b0 := eq_true c11
     have c11b1 : decide (0 ≤ a0_0) = true := decide_eq_true c11
     clear c11
     obtain ⟨ji12, hji12⟩ : ∃ j_ : Int, (shl .i64 1 a0_0) = j_ := ⟨_, rfl⟩
     replace H : ((spec_l1In.f a2 0 (wrap64 ((ji12) - 1))).bind fun t254 => (spec_AffineImage.j0 k l1 a2 (!t254) a0_0 a0_1)) = some (r1, r2, r3) := by first | (rw [hji12] at H; exact H) | (simp only [hji12] at H ⊢; exact H)
     (try rw [hji12] at A7)
     (try rw [hji12] at A9)
     have hji12_ : (IntKind.i64.wrap (1 * 2 ^ min a0_0.toNat 64)) = ji12 := hji12
     have hji12z : a0_0 ≤ 64 → (IntKind.i64.wrap (1 * 2 ^ a0_0.toNat)) = ji12 := shl_small hji12
     have hji12u : (IntKind.i64.wrap (2 ^ min a0_0.toNat 64)) = ji12 := by have h_ := hji12_; rw [Int.one_mul] at h_; exact h_
     have hji12v : a0_0 ≤ 64 → (IntKind.i64.wrap (2 ^ a0_0.toNat)) = ji12 := fun hle_ => by have h_ := hji12z hle_; rw [Int.one_mul] at h_; exact h_
     have hji12y : (wrap64 (1 * 2 ^ min a0_0.toNat 64)) = ji12 := (i64_w _).symm.trans hji12_
     have hji12x : a0_0 ≤ 64 → (wrap64 (1 * 2 ^ a0_0.toNat)) = ji12 := fun h_ => (i64_w _).symm.trans (hji12z h_)
     replace H := Option.bind_eq_some_iff.mp H; obtain ⟨t254, A130, H⟩ := H
     replace H : (spec_AffineImage.j0 k l1 a2 (!t254) a0_0 a0_1) = some (r1, r2, r3) := H
     have A13 := M.A_ A130; clear A130
     have H' := M.A_ H
     clear H
     have hnb14 := NB250_251.out
     have hnc14 := NB251_250.out
     have hcz15_0 : w6.cell? ⟨gb250, 0, none⟩ = some (.int .i64 a0_0) := (blk_cell BK250.out 0).trans rfl
     have hcz15_1 : w6.cell? ⟨gb250, 1, none⟩ = some (.int .i64 a0_1) := (blk_cell BK250.out 1).trans rfl
     have hfz15_0 := blk_frozen BK250.out 0
     have hfz15_1 := blk_frozen BK250.out 1
     go_wp2_with (first | (go_at_call 43; (with_reducible refine (spec_IsTable.calls a0_0 a0_1 true _ A7.out).mono ?_); rintro e w16 ⟨rfl, hb⟩; have n0_ := M.A_ (blk_below (M.Lb BK250) hb); have n1_ := M.A_ (blk_below (M.Lb BK251) hb); have n2_ := M.A_ (below_step (M.Lw HB) hb); clear BK250; clear BK251; clear HB; have BK250 := n0_; have BK251 := n1_; have HB := n2_; clear n0_ n1_ n2_; (try clear hb); (try clear hb2); (try clear hk); (try clear hi); have hcz17_0 : w16.cell? ⟨gb250, 0, none⟩ = some (.int .i64 a0_0) := (blk_cell BK250.out 0).trans rfl; have hcz17_1 : w16.cell? ⟨gb250, 1, none⟩ = some (.int .i64 a0_1) := (blk_cell BK250.out 1).trans rfl; have hfz17_0 := blk_frozen BK250.out 0; have hfz17_1 := blk_frozen BK250.out 1) | (go_at_call 30; (with_reducible refine (spec_IsInvertible.calls k a0_0 _ _ l1 true _ ?side1 ?side2 A9.out).mono ?_); (case side1 => exact M.Lc (Kd.C_below HR1.out HB.out)); (case side2 => exact HC1.out); rintro e w18 ⟨rfl, hb⟩; have n0_ := M.A_ (blk_below (M.Lb BK250) hb); have n1_ := M.A_ (blk_below (M.Lb BK251) hb); have n2_ := M.A_ (below_step (M.Lw HB) hb); clear BK250; clear BK251; clear HB; have BK250 := n0_; have BK251 := n1_; have HB := n2_; clear n0_ n1_ n2_; (try clear hb); (try clear hb2); (try clear hk); (try clear hi); have hcz19_0 : w18.cell? ⟨gb250, 0, none⟩ = some (.int .i64 a0_0) := (blk_cell BK250.out 0).trans rfl; have hcz19_1 : w18.cell? ⟨gb250, 1, none⟩ = some (.int .i64 a0_1) := (blk_cell BK250.out 1).trans rfl; have hfz19_0 := blk_frozen BK250.out 0; have hfz19_1 := blk_frozen BK250.out 1) | (go_at_call 44; (with_reducible refine (spec_l1In.calls a2 0 (wrap64 ((ji12) - 1)) t254 _ A13.out).mono ?_); rintro e w' ⟨rfl, ⟨nd, rfl⟩⟩; (try first | exact ⟨rfl, _, World.drewN_drewN _ _ _⟩ | exact ⟨rfl, _, Eq.trans (World.drewN_drewN _ _ _) (congrArg (World.drewN _) (Nat.add_assoc _ _ _))⟩)))
     repeat (go_quiet (first | (go_at_call 43; (with_reducible refine (spec_IsTable.calls a0_0 a0_1 true _ A7.out).mono ?_); rintro e w16 ⟨rfl, hb⟩; have n0_ := M.A_ (blk_below (M.Lb BK250) hb); have n1_ := M.A_ (blk_below (M.Lb BK251) hb); have n2_ := M.A_ (below_step (M.Lw HB) hb); clear BK250; clear BK251; clear HB; have BK250 := n0_; have BK251 := n1_; have HB := n2_; clear n0_ n1_ n2_; (try clear hb); (try clear hb2); (try clear hk); (try clear hi); have hcz17_0 : w16.cell? ⟨gb250, 0, none⟩ = some (.int .i64 a0_0) := (blk_cell BK250.out 0).trans rfl; have hcz17_1 : w16.cell? ⟨gb250, 1, none⟩ = some (.int .i64 a0_1) := (blk_cell BK250.out 1).trans rfl; have hfz17_0 := blk_frozen BK250.out 0; have hfz17_1 := blk_frozen BK250.out 1) | (go_at_call 30; (with_reducible refine (spec_IsInvertible.calls k a0_0 _ _ l1 true _ ?side1 ?side2 A9.out).mono ?_); (case side1 => exact M.Lc (Kd.C_below HR1.out HB.out)); (case side2 => exact HC1.out); rintro e w18 ⟨rfl, hb⟩; have n0_ := M.A_ (blk_below (M.Lb BK250) hb); have n1_ := M.A_ (blk_below (M.Lb BK251) hb); have n2_ := M.A_ (below_step (M.Lw HB) hb); clear BK250; clear BK251; clear HB; have BK250 := n0_; have BK251 := n1_; have HB := n2_; clear n0_ n1_ n2_; (try clear hb); (try clear hb2); (try clear hk); (try clear hi); have hcz19_0 : w18.cell? ⟨gb250, 0, none⟩ = some (.int .i64 a0_0) := (blk_cell BK250.out 0).trans rfl; have hcz19_1 : w18.cell? ⟨gb250, 1, none⟩ = some (.int .i64 a0_1) := (blk_cell BK250.out 1).trans rfl; have hfz19_0 := blk_frozen BK250.out 0; have hfz19_1 := blk_frozen BK250.out 1) | (go_at_call 44; (with_reducible refine (spec_l1In.calls a2 0 (wrap64 ((ji12) - 1)) t254 _ A13.out).mono ?_); rintro e w' ⟨rfl, ⟨nd, rfl⟩⟩; (try first | exact ⟨rfl, _, World.drewN_drewN _ _ _⟩ | exact ⟨rfl, _, Eq.trans (World.drewN_drewN _ _ _) (congrArg (World.drewN _) (Nat.add_assoc _ _ _))⟩))); try go_wp2_with (first | (go_at_call 43; (with_reducible refine (spec_IsTable.calls a0_0 a0_1 true _ A7.out).mono ?_); rintro e w16 ⟨rfl, hb⟩; have n0_ := M.A_ (blk_below (M.Lb BK250) hb); have n1_ := M.A_ (blk_below (M.Lb BK251) hb); have n2_ := M.A_ (below_step (M.Lw HB) hb); clear BK250; clear BK251; clear HB; have BK250 := n0_; have BK251 := n1_; have HB := n2_; clear n0_ n1_ n2_; (try clear hb); (try clear hb2); (try clear hk); (try clear hi); have hcz17_0 : w16.cell? ⟨gb250, 0, none⟩ = some (.int .i64 a0_0) := (blk_cell BK250.out 0).trans rfl; have hcz17_1 : w16.cell? ⟨gb250, 1, none⟩ = some (.int .i64 a0_1) := (blk_cell BK250.out 1).trans rfl; have hfz17_0 := blk_frozen BK250.out 0; have hfz17_1 := blk_frozen BK250.out 1) | (go_at_call 30; (with_reducible refine (spec_IsInvertible.calls k a0_0 _ _ l1 true _ ?side1 ?side2 A9.out).mono ?_); (case side1 => exact M.Lc (Kd.C_below HR1.out HB.out)); (case side2 => exact HC1.out); rintro e w18 ⟨rfl, hb⟩; have n0_ := M.A_ (blk_below (M.Lb BK250) hb); have n1_ := M.A_ (blk_below (M.Lb BK251) hb); have n2_ := M.A_ (below_step (M.Lw HB) hb); clear BK250; clear BK251; clear HB; have BK250 := n0_; have BK251 := n1_; have HB := n2_; clear n0_ n1_ n2_; (try clear hb); (try clear hb2); (try clear hk); (try clear hi); have hcz19_0 : w18.cell? ⟨gb250, 0, none⟩ = some (.int .i64 a0_0) := (blk_cell BK250.out 0).trans rfl; have hcz19_1 : w18.cell? ⟨gb250, 1, none⟩ = some (.int .i64 a0_1) := (blk_cell BK250.out 1).trans rfl; have hfz19_0 := blk_frozen BK250.out 0; have hfz19_1 := blk_frozen BK250.out 1) | (go_at_call 44; (with_reducible refine (spec_l1In.calls a2 0 (wrap64 ((ji12) - 1)) t254 _ A13.out).mono ?_); rintro e w' ⟨rfl, ⟨nd, rfl⟩⟩; (try first | exact ⟨rfl, _, World.drewN_drewN _ _ _⟩ | exact ⟨rfl, _, Eq.trans (World.drewN_drewN _ _ _) (congrArg (World.drewN _) (Nat.add_assoc _ _ _))⟩))))
     go_meet
     case rel => exact ⟨_, (!t254), (by first | rfl | (simp; done) | (simp [*]; done)), H', ⟨by first | omega | exact Nat.le_refl _⟩, ⟨M.Lb BK250⟩, ⟨M.Lb BK251⟩, ⟨by repeat (first | (with_reducible first | exact HB.out | apply below_alloc | apply pw_below_drewN | apply below_drew1 | refine below_set ?_ GE250.out | refine below_set ?_ GE251.out) | exact HB.out)⟩⟩
    ·rw [if_neg c11] at H
     exact absurd H (by simp)
   ·replace c10 := Bool.eq_false_iff.mpr c10
    subst c10
    rw [if_neg (show ¬ (false = true) by decide)] at H; (try dsimp only at H)
    have H' := M.A_ H
    clear H
    have hnb20 := NB250_251.out
    have hnc20 := NB251_250.out
    have hcz21_0 : w6.cell? ⟨gb250, 0, none⟩ = some (.int .i64 a0_0) := (blk_cell BK250.out 0).trans rfl
    have hcz21_1 : w6.cell? ⟨gb250, 1, none⟩ = some (.int .i64 a0_1) := (blk_cell BK250.out 1).trans rfl
    have hfz21_0 := blk_frozen BK250.out 0
    have hfz21_1 := blk_frozen BK250.out 1
    go_wp2_with (first | (go_at_call 43; (with_reducible refine (spec_IsTable.calls a0_0 a0_1 true _ A7.out).mono ?_); rintro e w22 ⟨rfl, hb⟩; have n0_ := M.A_ (blk_below (M.Lb BK250) hb); have n1_ := M.A_ (blk_below (M.Lb BK251) hb); have n2_ := M.A_ (below_step (M.Lw HB) hb); clear BK250; clear BK251; clear HB; have BK250 := n0_; have BK251 := n1_; have HB := n2_; clear n0_ n1_ n2_; (try clear hb); (try clear hb2); (try clear hk); (try clear hi); have hcz23_0 : w22.cell? ⟨gb250, 0, none⟩ = some (.int .i64 a0_0) := (blk_cell BK250.out 0).trans rfl; have hcz23_1 : w22.cell? ⟨gb250, 1, none⟩ = some (.int .i64 a0_1) := (blk_cell BK250.out 1).trans rfl; have hfz23_0 := blk_frozen BK250.out 0; have hfz23_1 := blk_frozen BK250.out 1) | (go_at_call 30; (with_reducible refine (spec_IsInvertible.calls k a0_0 _ _ l1 false _ ?side1 ?side2 A9.out).mono ?_); (case side1 => exact M.Lc (Kd.C_below HR1.out HB.out)); (case side2 => exact HC1.out); rintro e w24 ⟨rfl, hb⟩; have n0_ := M.A_ (blk_below (M.Lb BK250) hb); have n1_ := M.A_ (blk_below (M.Lb BK251) hb); have n2_ := M.A_ (below_step (M.Lw HB) hb); clear BK250; clear BK251; clear HB; have BK250 := n0_; have BK251 := n1_; have HB := n2_; clear n0_ n1_ n2_; (try clear hb); (try clear hb2); (try clear hk); (try clear hi)))
    repeat (go_quiet (first | (go_at_call 43; (with_reducible refine (spec_IsTable.calls a0_0 a0_1 true _ A7.out).mono ?_); rintro e w22 ⟨rfl, hb⟩; have n0_ := M.A_ (blk_below (M.Lb BK250) hb); have n1_ := M.A_ (blk_below (M.Lb BK251) hb); have n2_ := M.A_ (below_step (M.Lw HB) hb); clear BK250; clear BK251; clear HB; have BK250 := n0_; have BK251 := n1_; have HB := n2_; clear n0_ n1_ n2_; (try clear hb); (try clear hb2); (try clear hk); (try clear hi); have hcz23_0 : w22.cell? ⟨gb250, 0, none⟩ = some (.int .i64 a0_0) := (blk_cell BK250.out 0).trans rfl; have hcz23_1 : w22.cell? ⟨gb250, 1, none⟩ = some (.int .i64 a0_1) := (blk_cell BK250.out 1).trans rfl; have hfz23_0 := blk_frozen BK250.out 0; have hfz23_1 := blk_frozen BK250.out 1) | (go_at_call 30; (with_reducible refine (spec_IsInvertible.calls k a0_0 _ _ l1 false _ ?side1 ?side2 A9.out).mono ?_); (case side1 => exact M.Lc (Kd.C_below HR1.out HB.out)); (case side2 => exact HC1.out); rintro e w24 ⟨rfl, hb⟩; have n0_ := M.A_ (blk_below (M.Lb BK250) hb); have n1_ := M.A_ (blk_below (M.Lb BK251) hb); have n2_ := M.A_ (below_step (M.Lw HB) hb); clear BK250; clear BK251; clear HB; have BK250 := n0_; have BK251 := n1_; have HB := n2_; clear n0_ n1_ n2_; (try clear hb); (try clear hb2); (try clear hk); (try clear hi))); try go_wp2_with (first | (go_at_call 43; (with_reducible refine (spec_IsTable.calls a0_0 a0_1 true _ A7.out).mono ?_); rintro e w22 ⟨rfl, hb⟩; have n0_ := M.A_ (blk_below (M.Lb BK250) hb); have n1_ := M.A_ (blk_below (M.Lb BK251) hb); have n2_ := M.A_ (below_step (M.Lw HB) hb); clear BK250; clear BK251; clear HB; have BK250 := n0_; have BK251 := n1_; have HB := n2_; clear n0_ n1_ n2_; (try clear hb); (try clear hb2); (try clear hk); (try clear hi); have hcz23_0 : w22.cell? ⟨gb250, 0, none⟩ = some (.int .i64 a0_0) := (blk_cell BK250.out 0).trans rfl; have hcz23_1 : w22.cell? ⟨gb250, 1, none⟩ = some (.int .i64 a0_1) := (blk_cell BK250.out 1).trans rfl; have hfz23_0 := blk_frozen BK250.out 0; have hfz23_1 := blk_frozen BK250.out 1) | (go_at_call 30; (with_reducible refine (spec_IsInvertible.calls k a0_0 _ _ l1 false _ ?side1 ?side2 A9.out).mono ?_); (case side1 => exact M.Lc (Kd.C_below HR1.out HB.out)); (case side2 => exact HC1.out); rintro e w24 ⟨rfl, hb⟩; have n0_ := M.A_ (blk_below (M.Lb BK250) hb); have n1_ := M.A_ (blk_below (M.Lb BK251) hb); have n2_ := M.A_ (below_step (M.Lw HB) hb); clear BK250; clear BK251; clear HB; have BK250 := n0_; have BK251 := n1_; have HB := n2_; clear n0_ n1_ n2_; (try clear hb); (try clear hb2); (try clear hk); (try clear hi))))
    go_meet
    case rel => exact ⟨_, (true), (by first | rfl | (simp; done) | (simp [*]; done)), H', ⟨by first | omega | exact Nat.le_refl _⟩, ⟨M.Lb BK250⟩, ⟨M.Lb BK251⟩, ⟨by repeat (first | (with_reducible first | exact HB.out | apply below_alloc | apply pw_below_drewN | apply below_drew1 | refine below_set ?_ GE250.out | refine below_set ?_ GE251.out) | exact HB.out)⟩⟩
  ·replace c8 := Bool.eq_false_iff.mpr c8
   subst c8
   rw [if_neg (show ¬ (false = true) by decide)] at H; (try dsimp only at H)
   have H' := M.A_ H
   clear H
   have hnb25 := NB250_251.out
   have hnc25 := NB251_250.out
   have hcz26_0 : w6.cell? ⟨gb250, 0, none⟩ = some (.int .i64 a0_0) := (blk_cell BK250.out 0).trans rfl
   have hcz26_1 : w6.cell? ⟨gb250, 1, none⟩ = some (.int .i64 a0_1) := (blk_cell BK250.out 1).trans rfl
   have hfz26_0 := blk_frozen BK250.out 0
   have hfz26_1 := blk_frozen BK250.out 1
   go_wp2_with (first | (go_at_call 43; (with_reducible refine (spec_IsTable.calls a0_0 a0_1 false _ A7.out).mono ?_); rintro e w27 ⟨rfl, hb⟩; have n0_ := M.A_ (blk_below (M.Lb BK250) hb); have n1_ := M.A_ (blk_below (M.Lb BK251) hb); have n2_ := M.A_ (below_step (M.Lw HB) hb); clear BK250; clear BK251; clear HB; have BK250 := n0_; have BK251 := n1_; have HB := n2_; clear n0_ n1_ n2_; (try clear hb); (try clear hb2); (try clear hk); (try clear hi)))
   repeat (go_quiet (first | (go_at_call 43; (with_reducible refine (spec_IsTable.calls a0_0 a0_1 false _ A7.out).mono ?_); rintro e w27 ⟨rfl, hb⟩; have n0_ := M.A_ (blk_below (M.Lb BK250) hb); have n1_ := M.A_ (blk_below (M.Lb BK251) hb); have n2_ := M.A_ (below_step (M.Lw HB) hb); clear BK250; clear BK251; clear HB; have BK250 := n0_; have BK251 := n1_; have HB := n2_; clear n0_ n1_ n2_; (try clear hb); (try clear hb2); (try clear hk); (try clear hi))); try go_wp2_with (first | (go_at_call 43; (with_reducible refine (spec_IsTable.calls a0_0 a0_1 false _ A7.out).mono ?_); rintro e w27 ⟨rfl, hb⟩; have n0_ := M.A_ (blk_below (M.Lb BK250) hb); have n1_ := M.A_ (blk_below (M.Lb BK251) hb); have n2_ := M.A_ (below_step (M.Lw HB) hb); clear BK250; clear BK251; clear HB; have BK250 := n0_; have BK251 := n1_; have HB := n2_; clear n0_ n1_ n2_; (try clear hb); (try clear hb2); (try clear hk); (try clear hi))))
   go_meet
   case rel => exact ⟨_, (true), (by first | rfl | (simp; done) | (simp [*]; done)), H', ⟨by first | omega | exact Nat.le_refl _⟩, ⟨M.Lb BK250⟩, ⟨M.Lb BK251⟩, ⟨by repeat (first | (with_reducible first | exact HB.out | apply below_alloc | apply pw_below_drewN | apply below_drew1 | refine below_set ?_ GE250.out | refine below_set ?_ GE251.out) | exact HB.out)⟩⟩
 case rest =>
  clear HC4; (try clear c1); (try clear c2); (try clear p2); (try clear p6); (try clear c7); (try clear c8); (try clear c10); (try clear c11); (try clear c11b0); (try clear c11b1); (try clear c14); (try clear c20); (try clear c25); (try clear hcz15_0); (try clear hcz15_1); (try clear hcz17_0); (try clear hcz17_1); (try clear hcz19_0); (try clear hcz19_1); (try clear hcz21_0); (try clear hcz21_1); (try clear hcz23_0); (try clear hcz23_1); (try clear hcz26_0); (try clear hcz26_1); (try clear hfz15_0); (try clear hfz15_1); (try clear hfz17_0); (try clear hfz17_1); (try clear hfz19_0); (try clear hfz19_1)
  (try clear hfz21_0); (try clear hfz21_1); (try clear hfz23_0); (try clear hfz23_1); (try clear hfz26_0); (try clear hfz26_1); obtain ⟨kq, x28_3, rfl, HA, HJ3, BK250, BK251, HB⟩ := hcut
  cases kq with
  | zero => exact absurd HA.out (by simp [spec_AffineImage.j0])
  | succ kj3 =>
   have H := HA.out
   clear HA
   simp only [spec_AffineImage.j0] at H
   by_cases c28 : x28_3 = true
   ·subst c28
    rw [if_pos rfl] at H; (try dsimp only at H)
    simp only [Option.some.injEq, Prod.mk.injEq] at H
    obtain ⟨rfl, rfl, rfl⟩ := H
    have hnb29 := NB251_250.out
    have hnc29 := NB250_251.out
    have hcz30_0 : wc.cell? ⟨gb251, 0, none⟩ = some (.int .i64 0) := (blk_cell BK251.out 0).trans rfl
    have hcz30_1 : wc.cell? ⟨gb251, 1, none⟩ = some (.int .i64 0) := (blk_cell BK251.out 1).trans rfl
    have hfz30_0 := blk_frozen BK251.out 0
    have hfz30_1 := blk_frozen BK251.out 1
    go_wp2
    repeat (go_quiet (fail); try go_wp2)
    refine bodyPost_ret (results_ct rfl _ _ gb251 25 #[.int .i64 0, .int .i64 0] (0, 0) _ rfl (by (with_reducible repeat (first | refine blk_drewN ?_ _ | refine blk_drew ?_ | refine blk_alloc ?_ _)); refine blk_put (cs := #[.int .i64 0, .int .i64 0]) ?_ 1 _ rfl; (with_reducible repeat (first | refine blk_drewN ?_ _ | refine blk_drew ?_ | refine blk_alloc ?_ _)); refine blk_put (cs := #[.int .i64 0, .int .i64 0]) ?_ 0 _ rfl; (with_reducible repeat (first | refine blk_drewN ?_ _ | refine blk_drew ?_ | refine blk_alloc ?_ _)); exact BK251.out) Try.underlying25 rfl (by kernel_rfl)) rfl ?_
    exact ⟨by first | rfl | (simp [*, errW_none, errW_some] <;> rfl), by repeat (first | (with_reducible first | exact HB.out | apply below_alloc | apply pw_below_drewN | apply below_drew1 | refine below_set ?_ GE250.out | refine below_set ?_ GE251.out) | exact HB.out)⟩
   ·replace c28 := Bool.eq_false_iff.mpr c28
    subst c28
    rw [if_neg (show ¬ (false = true) by decide)] at H; (try dsimp only at H)
    have H' := M.A_ H
    clear H
    go_wp2
    repeat (go_quiet (fail); try go_wp2)
    go_loopg [8, 9] kj3 (fun kq v8 v9 w' => ∃ (x8_2 : Int) (x9_2 : Int), v8 = .int .i64 x8_2 ∧ v9 = .int .i64 x9_2 ∧ Aside0 (spec_AffineImage.l0 kq l1 a2 x8_2 x9_2 a0_0 a0_1 = some (r1, r2, r3)) ∧ Aside0 (kq ≤ kj3) ∧ Aside0 (w'.heap[gb250]? = some (.cells #[.int .i64 a0_0, .int .i64 a0_1] 25 (0, 0))) ∧ Aside0 (w'.heap[gb251]? = some (.cells #[.int .i64 0, .int .i64 0] 25 (0, 0))) ∧ Aside0 (Below w.heap.size w w'))
    case atStart => exact ⟨(0), (0), (by first | rfl | (simp; done) | (simp [*]; done)), (by first | rfl | (simp; done) | (simp [*]; done)), H', ⟨Nat.le_refl _⟩, ⟨M.Lb BK250⟩, ⟨M.Lb BK251⟩, ⟨by repeat (first | (with_reducible first | exact HB.out | apply below_alloc | apply pw_below_drewN | apply below_drew1 | refine below_set ?_ GE250.out | refine below_set ?_ GE251.out) | exact HB.out)⟩⟩
    case round =>
     clear H'; (try clear c1); (try clear c2); (try clear p2); (try clear p6); (try clear c7); (try clear c8); (try clear c10); (try clear c11); (try clear c11b0); (try clear c11b1); (try clear c14); (try clear c20); (try clear c25); (try clear c28); (try clear c29); (try clear hcz15_0); (try clear hcz15_1); (try clear hcz17_0); (try clear hcz17_1); (try clear hcz19_0); (try clear hcz19_1); (try clear hcz21_0); (try clear hcz21_1); (try clear hcz23_0); (try clear hcz23_1); (try clear hcz26_0); (try clear hcz26_1); (try clear hcz30_0); (try clear hcz30_1); (try clear hfz15_0); (try clear hfz15_1)
     (try clear hfz17_0); (try clear hfz17_1); (try clear hfz19_0); (try clear hfz19_1); (try clear hfz21_0); (try clear hfz21_1); (try clear hfz23_0); (try clear hfz23_1); (try clear hfz26_0); (try clear hfz26_1); (try clear hfz30_0); (try clear hfz30_1); (try clear p2); (try clear p6); obtain ⟨x8_2, x9_2, rfl, rfl, HA, HK2, BK250, BK251, HB⟩ := hrel
     cases gk with
     | zero => exact absurd HA.out (by simp [spec_AffineImage.l0])
     | succ k2 =>
      have H := HA.out
      clear HA
      simp only [spec_AffineImage.l0] at H
      by_cases c31 : 0 ≤ a0_0
      ·rw [if_pos c31] at H
       have c31b0 := eq_true c31
       have c31b1 : decide (0 ≤ a0_0) = true := decide_eq_true c31
       clear c31
       obtain ⟨ji32, hji32⟩ : ∃ j_ : Int, (shl .i64 1 a0_0) = j_ := ⟨_, rfl⟩
       replace H : (if x9_2 < (ji32) then ((spec_l27Apply.f k2 l1 x9_2).bind fun t255 => (if 0 ≤ (Go.bits .xor .i64 t255 a2) then (if 0 ≤ x9_2 then (spec_AffineImage.l0 k2 l1 a2 (Go.bits .or .i64 x8_2 (shl .i64 (Go.bits .and .i64 (shr .i64 a0_1 (Go.bits .xor .i64 t255 a2)) 1) x9_2)) (wrap64 (x9_2 + 1)) a0_0 a0_1) else (none)) else (none))) else (some (a0_0, x8_2, true))) = some (r1, r2, r3) := by first | (rw [hji32] at H; exact H) | (simp only [hji32] at H ⊢; exact H)
       have hji32_ : (IntKind.i64.wrap (1 * 2 ^ min a0_0.toNat 64)) = ji32 := hji32
       have hji32z : a0_0 ≤ 64 → (IntKind.i64.wrap (1 * 2 ^ a0_0.toNat)) = ji32 := shl_small hji32
       have hji32u : (IntKind.i64.wrap (2 ^ min a0_0.toNat 64)) = ji32 := by have h_ := hji32_; rw [Int.one_mul] at h_; exact h_
       have hji32v : a0_0 ≤ 64 → (IntKind.i64.wrap (2 ^ a0_0.toNat)) = ji32 := fun hle_ => by have h_ := hji32z hle_; rw [Int.one_mul] at h_; exact h_
       have hji32y : (wrap64 (1 * 2 ^ min a0_0.toNat 64)) = ji32 := (i64_w _).symm.trans hji32_
       have hji32x : a0_0 ≤ 64 → (wrap64 (1 * 2 ^ a0_0.toNat)) = ji32 := fun h_ => (i64_w _).symm.trans (hji32z h_)
       by_cases c33 : x9_2 < (ji32)
       ·rw [if_pos c33] at H
        have c33b0 : decide (x9_2 < (ji32)) = true := decide_eq_true c33
        clear c33; obtain ⟨t255, A34, H⟩ := M.ob_ H; (try dsimp only at H)
        by_cases c35 : 0 ≤ (Go.bits .xor .i64 t255 a2)
        ·rw [if_pos c35] at H
         have c35b0 := eq_true c35
         have c35b1 : decide (0 ≤ (Go.bits .xor .i64 t255 a2)) = true := decide_eq_true c35
         clear c35
         obtain ⟨ji36, hji36⟩ : ∃ j_ : Int, (shr .i64 a0_1 (Go.bits .xor .i64 t255 a2)) = j_ := ⟨_, rfl⟩
         replace H : (if 0 ≤ x9_2 then (spec_AffineImage.l0 k2 l1 a2 (Go.bits .or .i64 x8_2 (shl .i64 (Go.bits .and .i64 (ji36) 1) x9_2)) (wrap64 (x9_2 + 1)) a0_0 a0_1) else (none)) = some (r1, r2, r3) := by first | (rw [hji36] at H; exact H) | (simp only [hji36] at H ⊢; exact H)
         (try rw [hji36] at A34)
         have hji36_ : (a0_1 / 2 ^ min (Go.bits .xor .i64 t255 a2).toNat 64) = ji36 := hji36
         have hji36z : (Go.bits .xor .i64 t255 a2) ≤ 64 → (a0_1 / 2 ^ (Go.bits .xor .i64 t255 a2).toNat) = ji36 := shr_small hji36
         by_cases c37 : 0 ≤ x9_2
         ·rw [if_pos c37] at H
          have c37b0 := eq_true c37
          have c37b1 : decide (0 ≤ x9_2) = true := decide_eq_true c37
          clear c37
          obtain ⟨ji38, hji38⟩ : ∃ j_ : Int, (shl .i64 (Go.bits .and .i64 (ji36) 1) x9_2) = j_ := ⟨_, rfl⟩
          replace H : (spec_AffineImage.l0 k2 l1 a2 (Go.bits .or .i64 x8_2 (ji38)) (wrap64 (x9_2 + 1)) a0_0 a0_1) = some (r1, r2, r3) := by first | (rw [hji38] at H; exact H) | (simp only [hji38] at H ⊢; exact H)
          (try rw [hji38] at A34)
          have hji38_ : (IntKind.i64.wrap ((Go.bits .and .i64 (ji36) 1) * 2 ^ min x9_2.toNat 64)) = ji38 := hji38
          have hji38z : x9_2 ≤ 64 → (IntKind.i64.wrap ((Go.bits .and .i64 (ji36) 1) * 2 ^ x9_2.toNat)) = ji38 := shl_small hji38
          have hji38y : (wrap64 ((Go.bits .and .i64 (ji36) 1) * 2 ^ min x9_2.toNat 64)) = ji38 := (i64_w _).symm.trans hji38_
          have hji38x : x9_2 ≤ 64 → (wrap64 ((Go.bits .and .i64 (ji36) 1) * 2 ^ x9_2.toNat)) = ji38 := fun h_ => (i64_w _).symm.trans (hji38z h_)
          have H' := M.A_ H
          clear H
          have hnb39 := NB250_251.out
          have hnc39 := NB251_250.out
          have hcz40_0 : wr.cell? ⟨gb250, 0, none⟩ = some (.int .i64 a0_0) := (blk_cell BK250.out 0).trans rfl
          have hcz40_1 : wr.cell? ⟨gb250, 1, none⟩ = some (.int .i64 a0_1) := (blk_cell BK250.out 1).trans rfl
          have hfz40_0 := blk_frozen BK250.out 0
          have hfz40_1 := blk_frozen BK250.out 1
          go_wp2_with (first | (go_at_call 45; (with_reducible refine (spec_l27Apply.calls k2 _ _ l1 x9_2 t255 _ ?side1 ?side2 A34.out).mono ?_); (case side1 => exact M.Lc (Kd.C_below HR1.out HB.out)); (case side2 => exact HC1.out); rintro e w' ⟨rfl, ⟨nd, rfl⟩⟩; (try first | exact ⟨rfl, _, World.drewN_drewN _ _ _⟩ | exact ⟨rfl, _, Eq.trans (World.drewN_drewN _ _ _) (congrArg (World.drewN _) (Nat.add_assoc _ _ _))⟩)))
          repeat (go_quiet (first | (go_at_call 45; (with_reducible refine (spec_l27Apply.calls k2 _ _ l1 x9_2 t255 _ ?side1 ?side2 A34.out).mono ?_); (case side1 => exact M.Lc (Kd.C_below HR1.out HB.out)); (case side2 => exact HC1.out); rintro e w' ⟨rfl, ⟨nd, rfl⟩⟩; (try first | exact ⟨rfl, _, World.drewN_drewN _ _ _⟩ | exact ⟨rfl, _, Eq.trans (World.drewN_drewN _ _ _) (congrArg (World.drewN _) (Nat.add_assoc _ _ _))⟩))); try go_wp2_with (first | (go_at_call 45; (with_reducible refine (spec_l27Apply.calls k2 _ _ l1 x9_2 t255 _ ?side1 ?side2 A34.out).mono ?_); (case side1 => exact M.Lc (Kd.C_below HR1.out HB.out)); (case side2 => exact HC1.out); rintro e w' ⟨rfl, ⟨nd, rfl⟩⟩; (try first | exact ⟨rfl, _, World.drewN_drewN _ _ _⟩ | exact ⟨rfl, _, Eq.trans (World.drewN_drewN _ _ _) (congrArg (World.drewN _) (Nat.add_assoc _ _ _))⟩))))
          go_roundg k2
          case measure => have := HJ3.out; have := HK2.out; omega
          case rel => exact ⟨(Go.bits .or .i64 x8_2 (ji38)), (wrap64 (x9_2 + 1)), (by first | rfl | (simp; done) | (simp only [← hji38] <;> (first | rfl | simp)) | (simp [*]; done)), (by first | rfl | (simp; done) | (simp [*]; done)), H', ⟨by have := HJ3.out; have := HK2.out; omega⟩, ⟨M.Lb BK250⟩, ⟨M.Lb BK251⟩, ⟨by repeat (first | (with_reducible first | exact HB.out | apply below_alloc | apply pw_below_drewN | apply below_drew1 | refine below_set ?_ GE250.out | refine below_set ?_ GE251.out) | exact HB.out)⟩⟩
         ·rw [if_neg c37] at H
          exact absurd H (by simp)
        ·rw [if_neg c35] at H
         exact absurd H (by simp)
       ·rw [if_neg c33] at H
        have c33b0 : decide (x9_2 < (ji32)) = false := decide_eq_false c33
        clear c33
        simp only [Option.some.injEq, Prod.mk.injEq] at H
        obtain ⟨rfl, rfl, rfl⟩ := H
        have hnb41 := NB250_251.out
        have hnc41 := NB251_250.out
        have hcz42_0 : wr.cell? ⟨gb250, 0, none⟩ = some (.int .i64 a0_0) := (blk_cell BK250.out 0).trans rfl
        have hcz42_1 : wr.cell? ⟨gb250, 1, none⟩ = some (.int .i64 a0_1) := (blk_cell BK250.out 1).trans rfl
        have hfz42_0 := blk_frozen BK250.out 0
        have hfz42_1 := blk_frozen BK250.out 1
        have hcz43_0 : wr.cell? ⟨gb251, 0, none⟩ = some (.int .i64 0) := (blk_cell BK251.out 0).trans rfl
        have hcz43_1 : wr.cell? ⟨gb251, 1, none⟩ = some (.int .i64 0) := (blk_cell BK251.out 1).trans rfl
        have hfz43_0 := blk_frozen BK251.out 0
        have hfz43_1 := blk_frozen BK251.out 1
        go_wp2
        repeat (go_quiet (fail); try go_wp2)
        refine bodyPost_ret (results_ct rfl _ _ gb251 25 #[.int .i64 a0_0, .int .i64 x8_2] (0, 0) _ rfl (by (with_reducible repeat (first | refine blk_drewN ?_ _ | refine blk_drew ?_ | refine blk_alloc ?_ _)); refine blk_put (cs := #[.int .i64 a0_0, .int .i64 0]) ?_ 1 _ rfl; (with_reducible repeat (first | refine blk_drewN ?_ _ | refine blk_drew ?_ | refine blk_alloc ?_ _)); refine blk_put (cs := #[.int .i64 0, .int .i64 0]) ?_ 0 _ rfl; (with_reducible repeat (first | refine blk_drewN ?_ _ | refine blk_drew ?_ | refine blk_alloc ?_ _)); exact BK251.out) Try.underlying25 rfl (by kernel_rfl)) rfl ?_
        exact ⟨by first | rfl | (simp [errW_none, errW_some] <;> rfl) | (simp only [← hji32]; first | rfl | (simp [errW_none, errW_some] <;> rfl)) | (simp [*, errW_none, errW_some] <;> rfl), by repeat (first | (with_reducible first | exact HB.out | apply below_alloc | apply pw_below_drewN | apply below_drew1 | refine below_set ?_ GE250.out | refine below_set ?_ GE251.out) | exact HB.out)⟩
      ·rw [if_neg c31] at H
       exact absurd H (by simp)
mutual
def impl_InverseMap.l0 : Nat → Int → List Int → List Int → Int → Int → Option (List Int × Bool)
 | 0, _, _, _, _, _ => none
 | k + 1, x0, x1, x6, x16, x17 => if x17 < x16 then (impl_InverseMap.l1 k x0 x1 x6 x17 x16 x17 x0 0) else (some (x6, true))
def impl_InverseMap.l1 : Nat → Int → List Int → List Int → Int → Int → Int → Int → Int → Option (List Int × Bool)
 | 0, _, _, _, _, _, _, _, _ => none
 | k + 1, x0, x1, x6, x7, x16, x17, x20, x21 => if x21 < x20 then ((impl_image.f k x1 x7).bind fun t260 => (if 0 ≤ x21 then (if t260 = (shl .i64 1 x21) then (if x21 < (x6.length : Int) then (impl_InverseMap.l1 k x0 x1 (x6.set (x21 : Int).toNat x7) x7 x16 x17 x20 (wrap64 (x21 + 1))) else (none)) else (impl_InverseMap.l1 k x0 x1 x6 x7 x16 x17 x20 (wrap64 (x21 + 1)))) else (none))) else (impl_InverseMap.l0 k x0 x1 x6 x16 (wrap64 (x17 + 1)))
end
def impl_InverseMap.f (k : Nat) (a0 : Int) (l1 : List Int) : Option (List Int × Bool) := (impl_IsInvertible.f a0 l1).bind fun t256 => (if t256 = true then (if 0 ≤ a0 then (if (a0 : Int).toNat ≤ 35184372088832 then (impl_InverseMap.l0 k a0 l1 (List.replicate (a0 : Int).toNat 0) (shl .i64 1 a0) 0) else (none)) else (none)) else (some (([] : List Int), false)))
theorem impl_InverseMap.calls (k : Nat) (a0 : Int) (A1 : Option Addr) (c1 : Nat) (l1 : List Int) (r1 : List Int) (r2 : Bool) (w : World) (hr1 : Kd.C (Kd.int .i64) w A1 l1.length l1) (hc1 : l1.length ≤ c1) (h : impl_InverseMap.f k a0 l1 = some (r1, r2)) :
  Calls Try.prog 8 #[.int .i64 a0, .slice A1 l1.length c1] w fun e w' => ∃ v0_ : Value, e = .returned (.tuple #[v0_, .bool r2]) ∧ Kd.R (Kd.int .i64) 3 w' w.heap.size (fun _ => True) v0_ r1 ∧ Below w.heap.size w w' := by
 have HR1 := M.A_ hr1; have HC1 := M.A_ hc1; clear hr1 hc1
 have HB := M.A_ (Below.refl w.heap.size w)
 unfold impl_InverseMap.f at h; have H := h
 clear h; obtain ⟨t256, A3, H⟩ := M.ob_ H; (try dsimp only at H)
 by_cases c4 : t256 = true
 ·subst c4
  rw [if_pos rfl] at H; (try dsimp only at H)
  by_cases c5 : 0 ≤ a0
  ·rw [if_pos c5] at H
   have c5b0 := eq_true c5
   have c5b1 : decide (0 ≤ a0) = true := decide_eq_true c5
   clear c5
   by_cases c6 : (a0 : Int).toNat ≤ 35184372088832
   ·rw [if_pos c6] at H
    have c6b0 := eq_true c6
    have c6b1 : decide ((a0 : Int).toNat ≤ 35184372088832) = true := decide_eq_true c6
    clear c6
    obtain ⟨y257, hy257⟩ : ∃ y_ : List Int, y_ = (List.replicate (a0 : Int).toNat 0) := ⟨_, rfl⟩
    replace H : (impl_InverseMap.l0 k a0 l1 y257 (shl .i64 1 a0) 0) = some (r1, r2) := by first | (rw [hy257]; with_reducible exact H) | (have H2_ := (Option.bind_some _ _).symm.trans H; rw [hy257]; with_reducible exact H2_) | (have H2_ := (Option.bind_some _ _).symm.trans H; with_reducible exact H2_) | with_reducible exact H | (rw [hy257]; exact H) | exact H
    have Ny257 := M.A_ hy257; clear hy257
    have c7b0 := eq_true (of_decide_eq_true (by first | (with_reducible assumption) | assumption) : 0 ≤ a0)
    obtain ⟨ji8, hji8⟩ : ∃ j_ : Int, (shl .i64 1 a0) = j_ := ⟨_, rfl⟩
    replace H : (impl_InverseMap.l0 k a0 l1 y257 ji8 0) = some (r1, r2) := by first | (rw [hji8] at H; exact H) | (simp only [hji8] at H ⊢; exact H)
    (try rw [hji8] at A3)
    have hji8_ : (IntKind.i64.wrap (1 * 2 ^ min a0.toNat 64)) = ji8 := hji8
    have hji8z : a0 ≤ 64 → (IntKind.i64.wrap (1 * 2 ^ a0.toNat)) = ji8 := shl_small hji8
    have hji8u : (IntKind.i64.wrap (2 ^ min a0.toNat 64)) = ji8 := by have h_ := hji8_; rw [Int.one_mul] at h_; exact h_
    have hji8v : a0 ≤ 64 → (IntKind.i64.wrap (2 ^ a0.toNat)) = ji8 := fun hle_ => by have h_ := hji8z hle_; rw [Int.one_mul] at h_; exact h_
    have hji8y : (wrap64 (1 * 2 ^ min a0.toNat 64)) = ji8 := (i64_w _).symm.trans hji8_
    have hji8x : a0 ≤ 64 → (wrap64 (1 * 2 ^ a0.toNat)) = ji8 := fun h_ => (i64_w _).symm.trans (hji8z h_)
    have H' := M.A_ H
    clear H
    go_enter Try.func8, Try.ntmps8
    go_wp2_with (first | (go_at_call 22; (with_reducible refine (impl_IsInvertible.calls a0 _ _ l1 true _ ?side1 ?side2 A3.out).mono ?_); (case side1 => exact M.Lc HR1.out); (case side2 => exact HC1.out); rintro e w9 ⟨rfl, hb⟩; have n0_ := M.A_ (below_step (M.Lw HB) hb); clear HB; have HB := n0_; clear n0_; (try clear hb); (try clear hb2); (try clear hk); (try clear hi)) | ((with_reducible refine gate_dst (N := 14) rfl ?_); refine Kd.R_make (Kd.int .i64) _ 3 rfl (N := 14) rfl 26 _ _ rfl a0 rfl rfl Try.underlying26 (.int .i64 0) 8 info3 rfl (by decide) (by omega) 0 (ok := fun _ => True) (okp := fun _ => True) rfl (fun _ hk => hk) trivial (of_decide_eq_true (by first | (with_reducible assumption) | assumption)) (Nat.le_trans (Nat.mul_le_mul_right _ (of_decide_eq_true (by first | (with_reducible assumption) | assumption) : a0.toNat ≤ 35184372088832)) (by omega)) (Below.refl _ _) (Nat.le_refl _) ?_; intro v258 w10 ho11 hb hg_ hnew_; clear hg_ hnew_; (first | rw [← Ny257.out] at ho11 | (simp only [Int.reduceToNat] at ho11; rw [← Ny257.out] at ho11)); have n0_ := M.A_ (Kd.R_lower ho11 (below_size (M.Lw HB))); have n1_ := M.A_ (below_step (M.Lw HB) hb); clear HB; have HO259 := n0_; have HB := n1_; clear n0_ n1_; clear hb ho11))
    repeat (go_quiet (first | (go_at_call 22; (with_reducible refine (impl_IsInvertible.calls a0 _ _ l1 true _ ?side1 ?side2 A3.out).mono ?_); (case side1 => exact M.Lc HR1.out); (case side2 => exact HC1.out); rintro e w9 ⟨rfl, hb⟩; have n0_ := M.A_ (below_step (M.Lw HB) hb); clear HB; have HB := n0_; clear n0_; (try clear hb); (try clear hb2); (try clear hk); (try clear hi)) | ((with_reducible refine gate_dst (N := 14) rfl ?_); refine Kd.R_make (Kd.int .i64) _ 3 rfl (N := 14) rfl 26 _ _ rfl a0 rfl rfl Try.underlying26 (.int .i64 0) 8 info3 rfl (by decide) (by omega) 0 (ok := fun _ => True) (okp := fun _ => True) rfl (fun _ hk => hk) trivial (of_decide_eq_true (by first | (with_reducible assumption) | assumption)) (Nat.le_trans (Nat.mul_le_mul_right _ (of_decide_eq_true (by first | (with_reducible assumption) | assumption) : a0.toNat ≤ 35184372088832)) (by omega)) (Below.refl _ _) (Nat.le_refl _) ?_; intro v258 w10 ho11 hb hg_ hnew_; clear hg_ hnew_; (first | rw [← Ny257.out] at ho11 | (simp only [Int.reduceToNat] at ho11; rw [← Ny257.out] at ho11)); have n0_ := M.A_ (Kd.R_lower ho11 (below_size (M.Lw HB))); have n1_ := M.A_ (below_step (M.Lw HB) hb); clear HB; have HO259 := n0_; have HB := n1_; clear n0_ n1_; clear hb ho11)); try go_wp2_with (first | (go_at_call 22; (with_reducible refine (impl_IsInvertible.calls a0 _ _ l1 true _ ?side1 ?side2 A3.out).mono ?_); (case side1 => exact M.Lc HR1.out); (case side2 => exact HC1.out); rintro e w9 ⟨rfl, hb⟩; have n0_ := M.A_ (below_step (M.Lw HB) hb); clear HB; have HB := n0_; clear n0_; (try clear hb); (try clear hb2); (try clear hk); (try clear hi)) | ((with_reducible refine gate_dst (N := 14) rfl ?_); refine Kd.R_make (Kd.int .i64) _ 3 rfl (N := 14) rfl 26 _ _ rfl a0 rfl rfl Try.underlying26 (.int .i64 0) 8 info3 rfl (by decide) (by omega) 0 (ok := fun _ => True) (okp := fun _ => True) rfl (fun _ hk => hk) trivial (of_decide_eq_true (by first | (with_reducible assumption) | assumption)) (Nat.le_trans (Nat.mul_le_mul_right _ (of_decide_eq_true (by first | (with_reducible assumption) | assumption) : a0.toNat ≤ 35184372088832)) (by omega)) (Below.refl _ _) (Nat.le_refl _) ?_; intro v258 w10 ho11 hb hg_ hnew_; clear hg_ hnew_; (first | rw [← Ny257.out] at ho11 | (simp only [Int.reduceToNat] at ho11; rw [← Ny257.out] at ho11)); have n0_ := M.A_ (Kd.R_lower ho11 (below_size (M.Lw HB))); have n1_ := M.A_ (below_step (M.Lw HB) hb); clear HB; have HO259 := n0_; have HB := n1_; clear n0_ n1_; clear hb ho11)))
    go_loopg [17] k (fun kq v17 w' => ∃ (x6_1 : List Int) (x17_1 : Int), v17 = .int .i64 x17_1 ∧ Aside0 (impl_InverseMap.l0 kq a0 l1 x6_1 ji8 x17_1 = some (r1, r2)) ∧ Aside0 (kq ≤ k) ∧ Aside0 (Kd.R (Kd.int .i64) 3 w' w.heap.size (fun _ => True) v258 x6_1) ∧ Aside0 (Below w.heap.size w w'))
    case atStart => exact ⟨(y257), (0), (by first | rfl | (simp; done) | (simp [*]; done)), H', ⟨Nat.le_refl _⟩, ⟨M.Lr HO259⟩, ⟨by repeat (first | (with_reducible first | exact HB.out | apply below_alloc | apply pw_below_drewN | apply below_drew1 | refine below_set ?_ GB19.out) | exact HB.out)⟩⟩
    case round =>
     clear H'; (try clear c1); (try clear p2); (try clear c4); (try clear c5); (try clear c5b0); (try clear c5b1); (try clear c6); (try clear c6b0); (try clear c6b1); (try clear p6); (try clear c7); (try clear c7b0); (try clear c8); obtain ⟨x6_1, x17_1, rfl, HA, HK1, HO_6, HB⟩ := hrel
     cases gk with
     | zero => exact absurd HA.out (by simp [impl_InverseMap.l0])
     | succ k1 =>
      have H := HA.out
      clear HA
      simp only [impl_InverseMap.l0] at H
      by_cases c12 : x17_1 < ji8
      ·rw [if_pos c12] at H
       have c12b0 : decide (x17_1 < ji8) = true := decide_eq_true c12
       clear c12
       have H' := M.A_ H
       clear H
       go_wp2
       repeat (go_quiet (fail); try go_wp2)
       go_loopg [21] k1 (fun kq v21 w' => ∃ (x6_2 : List Int) (x21_2 : Int), v21 = .int .i64 x21_2 ∧ Aside0 (impl_InverseMap.l1 kq a0 l1 x6_2 x17_1 ji8 x17_1 a0 x21_2 = some (r1, r2)) ∧ Aside0 (kq ≤ k1) ∧ Aside0 (Kd.R (Kd.int .i64) 3 w' w.heap.size (fun _ => True) v258 x6_2) ∧ Aside0 (Below w.heap.size w w'))
       case atStart => exact ⟨(x6_1), (0), (by first | rfl | (simp; done) | (simp [*]; done)), H', ⟨Nat.le_refl _⟩, ⟨M.Lr HO_6⟩, ⟨by repeat (first | (with_reducible first | exact HB.out | apply below_alloc | apply pw_below_drewN | apply below_drew1 | refine below_set ?_ GB19.out) | exact HB.out)⟩⟩
       case round =>
        clear H'; (try clear c1); (try clear p2); (try clear c4); (try clear c5); (try clear c5b0); (try clear c5b1); (try clear c6); (try clear c6b0); (try clear c6b1); (try clear p6); (try clear c7); (try clear c7b0); (try clear c8); (try clear c12); (try clear c12b0); (try clear p2); (try clear p6); obtain ⟨x6_2, x21_2, rfl, HA, HK2, HO_6, HB⟩ := hrel
        cases gk with
        | zero => exact absurd HA.out (by simp [impl_InverseMap.l1])
        | succ k2 =>
         have H := HA.out
         clear HA
         simp only [impl_InverseMap.l1] at H
         by_cases c13 : x21_2 < a0
         ·rw [if_pos c13] at H
          have c13b0 : decide (x21_2 < a0) = true := decide_eq_true c13
          clear c13; obtain ⟨t260, A14, H⟩ := M.ob_ H; (try dsimp only at H)
          by_cases c15 : 0 ≤ x21_2
          ·rw [if_pos c15] at H
           have c15b0 := eq_true c15
           have c15b1 : decide (0 ≤ x21_2) = true := decide_eq_true c15
           clear c15
           obtain ⟨ji16, hji16⟩ : ∃ j_ : Int, (shl .i64 1 x21_2) = j_ := ⟨_, rfl⟩
           replace H : (if t260 = (ji16) then (if x21_2 < (x6_2.length : Int) then (impl_InverseMap.l1 k2 a0 l1 (x6_2.set (x21_2 : Int).toNat x17_1) x17_1 ji8 x17_1 a0 (wrap64 (x21_2 + 1))) else (none)) else (impl_InverseMap.l1 k2 a0 l1 x6_2 x17_1 ji8 x17_1 a0 (wrap64 (x21_2 + 1)))) = some (r1, r2) := by first | (rw [hji16] at H; exact H) | (simp only [hji16] at H ⊢; exact H)
           (try rw [hji16] at A14)
           have hji16_ : (IntKind.i64.wrap (1 * 2 ^ min x21_2.toNat 64)) = ji16 := hji16
           have hji16z : x21_2 ≤ 64 → (IntKind.i64.wrap (1 * 2 ^ x21_2.toNat)) = ji16 := shl_small hji16
           have hji16u : (IntKind.i64.wrap (2 ^ min x21_2.toNat 64)) = ji16 := by have h_ := hji16_; rw [Int.one_mul] at h_; exact h_
           have hji16v : x21_2 ≤ 64 → (IntKind.i64.wrap (2 ^ x21_2.toNat)) = ji16 := fun hle_ => by have h_ := hji16z hle_; rw [Int.one_mul] at h_; exact h_
           have hji16y : (wrap64 (1 * 2 ^ min x21_2.toNat 64)) = ji16 := (i64_w _).symm.trans hji16_
           have hji16x : x21_2 ≤ 64 → (wrap64 (1 * 2 ^ x21_2.toNat)) = ji16 := fun h_ => (i64_w _).symm.trans (hji16z h_)
           by_cases c17 : t260 = (ji16)
           ·rw [if_pos c17] at H
            have c17b0 : (t260 == (ji16)) = true := beq_iff_eq.mpr c17
            have c17b1 : (t260 != (ji16)) = false := bne_eq_false_iff_eq.mpr c17
            clear c17
            by_cases c18 : x21_2 < (x6_2.length : Int)
            ·rw [if_pos c18] at H
             have c18b0 : decide (x21_2 < (x6_2.length : Int)) = true := decide_eq_true c18
             clear c18
             obtain ⟨y261, hy261⟩ : ∃ y_ : List Int, y_ = (x6_2.set (x21_2 : Int).toNat x17_1) := ⟨_, rfl⟩
             replace H : (impl_InverseMap.l1 k2 a0 l1 y261 x17_1 ji8 x17_1 a0 (wrap64 (x21_2 + 1))) = some (r1, r2) := by first | (rw [hy261]; with_reducible exact H) | (have H2_ := (Option.bind_some _ _).symm.trans H; rw [hy261]; with_reducible exact H2_) | (have H2_ := (Option.bind_some _ _).symm.trans H; with_reducible exact H2_) | with_reducible exact H | (rw [hy261]; exact H) | exact H
             have Ny261 := M.A_ hy261; clear hy261
             have H' := M.A_ H
             clear H
             have p19 : 0 ≤ (x21_2 : Int) := of_decide_eq_true (by first | (with_reducible assumption) | assumption)
             have q19 : (x21_2 : Int) < ((x6_2.length : Int) : Int) := of_decide_eq_true (by first | (with_reducible assumption) | assumption)
             obtain ⟨go19, co19, eo19, gb19, gl19, cl19, HG19⟩ := Kd.R_form HO_6.out (by omega)
             (first | cases eo19 | (injection eo19 with ea_ en_ ec_; (first | subst ea_ | (injection ea_ with ea_; subst ea_)); subst ec_; clear en_))
             have GB19 := M.A_ gb19; have GG19 := M.A_ HG19; clear gb19 gl19 HG19
             obtain ⟨hx19_0, hf19_0⟩ := Kd.R_celln 0 HO_6.out (x21_2 : Int) p19 q19
             replace p19 := eq_true p19
             replace q19 := eq_true q19
             go_wp2_with (first | (go_at_call 42; (with_reducible refine (impl_image.calls k2 _ _ l1 x17_1 t260 _ ?side1 ?side2 A14.out).mono ?_); (case side1 => exact M.Lc (Kd.C_below HR1.out HB.out)); (case side2 => exact HC1.out); rintro e w' ⟨rfl, ⟨nd, rfl⟩⟩; (try first | exact ⟨rfl, _, World.drewN_drewN _ _ _⟩ | exact ⟨rfl, _, Eq.trans (World.drewN_drewN _ _ _) (congrArg (World.drewN _) (Nat.add_assoc _ _ _))⟩); skip) | ((with_reducible refine gate_store (t := 3) (p := 33) rfl ?_); (try (rw [drewN_self wr]; generalize hq_ : World.drewN wr _ = wr; have n0_ := M.A_ (Kd.R_at hq_ HO_6.out); have n1_ := M.A_ (below_at hq_ HB.out); clear hq_ HO_6 HB; have HO_6 := n0_; have HB := n1_; clear n0_ n1_; (try (obtain ⟨hy20_, hz20_⟩ := Kd.R_celln 0 HO_6.out (x21_2 : Int) (of_decide_eq_true (by first | (with_reducible assumption) | assumption)) (of_decide_eq_true (by first | (with_reducible assumption) | assumption)))); (try (have HP20 := Kd.R_putg HO_6.out (x21_2 : Int) x17_1)))); refine store_event (t := 3) (p := 33) (v := ?vo_w21) (w1 := (wr.setCell ⟨go19, (x21_2 : Int).toNat, none⟩ (.int .i64 x17_1))) ?hg ?ho ?hn ?hr ?_; (case ho => rfl); (case hg => rfl); (case hn => rfl); (case hr => first | (go_simp; done) | (go_simp; rfl)); intro w21 hw; have hg : wr.grownBy w21 (some go19) := (by rw [hw]; exact HP20.2); have hp_ : Kd.R (Kd.int .i64) 3 w21 w.heap.size (fun _ => True) (.slice (some ⟨go19, 0, none⟩) x6_2.length co19) y261 := (by rw [hw, Ny261.out]; exact HP20.1); clear HP20; have n0_ := M.A_ (hp_); have n1_ := M.A_ ((by rw [hw]; exact below_set (HB.out) GB19.out : Below w.heap.size w w21)); clear HO_6; clear HB; have HO_6 := n0_; have HB := n1_; clear n0_ n1_; clear hg hw hp_))
             repeat (go_quiet (first | (go_at_call 42; (with_reducible refine (impl_image.calls k2 _ _ l1 x17_1 t260 _ ?side1 ?side2 A14.out).mono ?_); (case side1 => exact M.Lc (Kd.C_below HR1.out HB.out)); (case side2 => exact HC1.out); rintro e w' ⟨rfl, ⟨nd, rfl⟩⟩; (try first | exact ⟨rfl, _, World.drewN_drewN _ _ _⟩ | exact ⟨rfl, _, Eq.trans (World.drewN_drewN _ _ _) (congrArg (World.drewN _) (Nat.add_assoc _ _ _))⟩); skip) | ((with_reducible refine gate_store (t := 3) (p := 33) rfl ?_); (try (rw [drewN_self wr]; generalize hq_ : World.drewN wr _ = wr; have n0_ := M.A_ (Kd.R_at hq_ HO_6.out); have n1_ := M.A_ (below_at hq_ HB.out); clear hq_ HO_6 HB; have HO_6 := n0_; have HB := n1_; clear n0_ n1_; (try (obtain ⟨hy20_, hz20_⟩ := Kd.R_celln 0 HO_6.out (x21_2 : Int) (of_decide_eq_true (by first | (with_reducible assumption) | assumption)) (of_decide_eq_true (by first | (with_reducible assumption) | assumption)))); (try (have HP20 := Kd.R_putg HO_6.out (x21_2 : Int) x17_1)))); refine store_event (t := 3) (p := 33) (v := ?vo_w21) (w1 := (wr.setCell ⟨go19, (x21_2 : Int).toNat, none⟩ (.int .i64 x17_1))) ?hg ?ho ?hn ?hr ?_; (case ho => rfl); (case hg => rfl); (case hn => rfl); (case hr => first | (go_simp; done) | (go_simp; rfl)); intro w21 hw; have hg : wr.grownBy w21 (some go19) := (by rw [hw]; exact HP20.2); have hp_ : Kd.R (Kd.int .i64) 3 w21 w.heap.size (fun _ => True) (.slice (some ⟨go19, 0, none⟩) x6_2.length co19) y261 := (by rw [hw, Ny261.out]; exact HP20.1); clear HP20; have n0_ := M.A_ (hp_); have n1_ := M.A_ ((by rw [hw]; exact below_set (HB.out) GB19.out : Below w.heap.size w w21)); clear HO_6; clear HB; have HO_6 := n0_; have HB := n1_; clear n0_ n1_; clear hg hw hp_)); try go_wp2_with (first | (go_at_call 42; (with_reducible refine (impl_image.calls k2 _ _ l1 x17_1 t260 _ ?side1 ?side2 A14.out).mono ?_); (case side1 => exact M.Lc (Kd.C_below HR1.out HB.out)); (case side2 => exact HC1.out); rintro e w' ⟨rfl, ⟨nd, rfl⟩⟩; (try first | exact ⟨rfl, _, World.drewN_drewN _ _ _⟩ | exact ⟨rfl, _, Eq.trans (World.drewN_drewN _ _ _) (congrArg (World.drewN _) (Nat.add_assoc _ _ _))⟩); skip) | ((with_reducible refine gate_store (t := 3) (p := 33) rfl ?_); (try (rw [drewN_self wr]; generalize hq_ : World.drewN wr _ = wr; have n0_ := M.A_ (Kd.R_at hq_ HO_6.out); have n1_ := M.A_ (below_at hq_ HB.out); clear hq_ HO_6 HB; have HO_6 := n0_; have HB := n1_; clear n0_ n1_; (try (obtain ⟨hy20_, hz20_⟩ := Kd.R_celln 0 HO_6.out (x21_2 : Int) (of_decide_eq_true (by first | (with_reducible assumption) | assumption)) (of_decide_eq_true (by first | (with_reducible assumption) | assumption)))); (try (have HP20 := Kd.R_putg HO_6.out (x21_2 : Int) x17_1)))); refine store_event (t := 3) (p := 33) (v := ?vo_w21) (w1 := (wr.setCell ⟨go19, (x21_2 : Int).toNat, none⟩ (.int .i64 x17_1))) ?hg ?ho ?hn ?hr ?_; (case ho => rfl); (case hg => rfl); (case hn => rfl); (case hr => first | (go_simp; done) | (go_simp; rfl)); intro w21 hw; have hg : wr.grownBy w21 (some go19) := (by rw [hw]; exact HP20.2); have hp_ : Kd.R (Kd.int .i64) 3 w21 w.heap.size (fun _ => True) (.slice (some ⟨go19, 0, none⟩) x6_2.length co19) y261 := (by rw [hw, Ny261.out]; exact HP20.1); clear HP20; have n0_ := M.A_ (hp_); have n1_ := M.A_ ((by rw [hw]; exact below_set (HB.out) GB19.out : Below w.heap.size w w21)); clear HO_6; clear HB; have HO_6 := n0_; have HB := n1_; clear n0_ n1_; clear hg hw hp_)))
             go_roundg k2
             case measure => have := HK1.out; have := HK2.out; omega
             case rel => exact ⟨(y261), (wrap64 (x21_2 + 1)), (by first | rfl | (simp; done) | (simp [*]; done)), H', ⟨by have := HK1.out; have := HK2.out; omega⟩, ⟨M.Lr HO_6⟩, ⟨by repeat (first | (with_reducible first | exact HB.out | apply below_alloc | apply pw_below_drewN | apply below_drew1 | refine below_set ?_ GB19.out) | exact HB.out)⟩⟩
            ·rw [if_neg c18] at H
             exact absurd H (by simp)
           ·rw [if_neg c17] at H
            have c17b0 : (t260 == (ji16)) = false := beq_eq_false_iff_ne.mpr c17
            have c17b1 : (t260 != (ji16)) = true := bne_iff_ne.mpr c17
            have H' := M.A_ H
            clear H
            go_wp2_with (first | (go_at_call 42; (with_reducible refine (impl_image.calls k2 _ _ l1 x17_1 t260 _ ?side1 ?side2 A14.out).mono ?_); (case side1 => exact M.Lc (Kd.C_below HR1.out HB.out)); (case side2 => exact HC1.out); rintro e w' ⟨rfl, ⟨nd, rfl⟩⟩; (try first | exact ⟨rfl, _, World.drewN_drewN _ _ _⟩ | exact ⟨rfl, _, Eq.trans (World.drewN_drewN _ _ _) (congrArg (World.drewN _) (Nat.add_assoc _ _ _))⟩)))
            repeat (go_quiet (first | (go_at_call 42; (with_reducible refine (impl_image.calls k2 _ _ l1 x17_1 t260 _ ?side1 ?side2 A14.out).mono ?_); (case side1 => exact M.Lc (Kd.C_below HR1.out HB.out)); (case side2 => exact HC1.out); rintro e w' ⟨rfl, ⟨nd, rfl⟩⟩; (try first | exact ⟨rfl, _, World.drewN_drewN _ _ _⟩ | exact ⟨rfl, _, Eq.trans (World.drewN_drewN _ _ _) (congrArg (World.drewN _) (Nat.add_assoc _ _ _))⟩))); try go_wp2_with (first | (go_at_call 42; (with_reducible refine (impl_image.calls k2 _ _ l1 x17_1 t260 _ ?side1 ?side2 A14.out).mono ?_); (case side1 => exact M.Lc (Kd.C_below HR1.out HB.out)); (case side2 => exact HC1.out); rintro e w' ⟨rfl, ⟨nd, rfl⟩⟩; (try first | exact ⟨rfl, _, World.drewN_drewN _ _ _⟩ | exact ⟨rfl, _, Eq.trans (World.drewN_drewN _ _ _) (congrArg (World.drewN _) (Nat.add_assoc _ _ _))⟩))))
            go_roundg k2
            case measure => have := HK1.out; have := HK2.out; omega
            case rel => exact ⟨(x6_2), (wrap64 (x21_2 + 1)), (by first | rfl | (simp; done) | (simp [*]; done)), H', ⟨by have := HK1.out; have := HK2.out; omega⟩, ⟨M.Lr HO_6⟩, ⟨by repeat (first | (with_reducible first | exact HB.out | apply below_alloc | apply pw_below_drewN | apply below_drew1 | refine below_set ?_ GB19.out) | exact HB.out)⟩⟩
          ·rw [if_neg c15] at H
           exact absurd H (by simp)
         ·rw [if_neg c13] at H
          have c13b0 : decide (x21_2 < a0) = false := decide_eq_false c13
          clear c13
          have H' := M.A_ H
          clear H
          go_wp2
          repeat (go_quiet (fail); try go_wp2)
          go_roundg k2
          case measure => have := HK1.out; have := HK2.out; omega
          case rel => exact ⟨(x6_2), (wrap64 (x17_1 + 1)), (by first | rfl | (simp; done) | (simp [*]; done)), H', ⟨by have := HK1.out; have := HK2.out; omega⟩, ⟨M.Lr HO_6⟩, ⟨by repeat (first | (with_reducible first | exact HB.out | apply below_alloc | apply pw_below_drewN | apply below_drew1 | refine below_set ?_ GB19.out) | exact HB.out)⟩⟩
      ·rw [if_neg c12] at H
       have c12b0 : decide (x17_1 < ji8) = false := decide_eq_false c12
       clear c12
       simp only [Option.some.injEq, Prod.mk.injEq] at H
       obtain ⟨rfl, rfl⟩ := H
       go_wp2
       repeat (go_quiet (fail); try go_wp2)
       go_ret2
       exact ⟨_, by first | rfl | (simp [errW_none, errW_some] <;> rfl) | (simp only [← hji8]; first | rfl | (simp [errW_none, errW_some] <;> rfl)) | (simp [*, errW_none, errW_some] <;> rfl), by (with_reducible repeat (first | apply Kd.R_alloc | apply Kd.R_drewN | apply Kd.R_drew)); exact HO_6.out, by repeat (first | (with_reducible first | exact HB.out | apply below_alloc | apply pw_below_drewN | apply below_drew1 | refine below_set ?_ GB19.out) | exact HB.out)⟩
   ·rw [if_neg c6] at H
    exact absurd H (by simp)
  ·rw [if_neg c5] at H
   exact absurd H (by simp)
 ·replace c4 := Bool.eq_false_iff.mpr c4
  subst c4
  rw [if_neg (show ¬ (false = true) by decide)] at H; (try dsimp only at H)
  simp only [Option.some.injEq, Prod.mk.injEq] at H
  obtain ⟨rfl, rfl⟩ := H
  go_enter Try.func8, Try.ntmps8
  go_wp2_with (first | (go_at_call 22; (with_reducible refine (impl_IsInvertible.calls a0 _ _ l1 false _ ?side1 ?side2 A3.out).mono ?_); (case side1 => exact M.Lc HR1.out); (case side2 => exact HC1.out); rintro e w22 ⟨rfl, hb⟩; have n0_ := M.A_ (below_step (M.Lw HB) hb); clear HB; have HB := n0_; clear n0_; (try clear hb); (try clear hb2); (try clear hk); (try clear hi)))
  repeat (go_quiet (first | (go_at_call 22; (with_reducible refine (impl_IsInvertible.calls a0 _ _ l1 false _ ?side1 ?side2 A3.out).mono ?_); (case side1 => exact M.Lc HR1.out); (case side2 => exact HC1.out); rintro e w22 ⟨rfl, hb⟩; have n0_ := M.A_ (below_step (M.Lw HB) hb); clear HB; have HB := n0_; clear n0_; (try clear hb); (try clear hb2); (try clear hk); (try clear hi))); try go_wp2_with (first | (go_at_call 22; (with_reducible refine (impl_IsInvertible.calls a0 _ _ l1 false _ ?side1 ?side2 A3.out).mono ?_); (case side1 => exact M.Lc HR1.out); (case side2 => exact HC1.out); rintro e w22 ⟨rfl, hb⟩; have n0_ := M.A_ (below_step (M.Lw HB) hb); clear HB; have HB := n0_; clear n0_; (try clear hb); (try clear hb2); (try clear hk); (try clear hi))))
  go_ret2
  exact ⟨_, by first | rfl | (simp [*, errW_none, errW_some] <;> rfl), by first | exact Kd.R_nil _ _ _ _ _ | exact Kd.N_nil _ _ _ _ _ | exact Kd.V_nil _ _ _ _ _ | exact Kd.Q_nil _ _ _ _ _ | exact Kd.S_nil _ _ _ _ _, by repeat (first | (with_reducible first | exact HB.out | apply below_alloc | apply pw_below_drewN | apply below_drew1 | refine below_set ?_ GB19.out) | exact HB.out)⟩
def bits_OnesCount64.f (a0 : Int) : Option (Int) := some (Go.bits .and .i64 (wrap64 (IntKind.u64.wrap ((IntKind.u64.wrap ((IntKind.u64.wrap ((Go.bits .and .u64 (IntKind.u64.wrap (((IntKind.u64.wrap ((Go.bits .and .u64 ((IntKind.u64.wrap ((Go.bits .and .u64 (a0 / 2) 6148914691236517205) + (Go.bits .and .u64 a0 6148914691236517205))) / 4) 3689348814741910323) + (Go.bits .and .u64 (IntKind.u64.wrap ((Go.bits .and .u64 (a0 / 2) 6148914691236517205) + (Go.bits .and .u64 a0 6148914691236517205))) 3689348814741910323))) / 16) + (IntKind.u64.wrap ((Go.bits .and .u64 ((IntKind.u64.wrap ((Go.bits .and .u64 (a0 / 2) 6148914691236517205) + (Go.bits .and .u64 a0 6148914691236517205))) / 4) 3689348814741910323) + (Go.bits .and .u64 (IntKind.u64.wrap ((Go.bits .and .u64 (a0 / 2) 6148914691236517205) + (Go.bits .and .u64 a0 6148914691236517205))) 3689348814741910323))))) 1085102592571150095) + ((Go.bits .and .u64 (IntKind.u64.wrap (((IntKind.u64.wrap ((Go.bits .and .u64 ((IntKind.u64.wrap ((Go.bits .and .u64 (a0 / 2) 6148914691236517205) + (Go.bits .and .u64 a0 6148914691236517205))) / 4) 3689348814741910323) + (Go.bits .and .u64 (IntKind.u64.wrap ((Go.bits .and .u64 (a0 / 2) 6148914691236517205) + (Go.bits .and .u64 a0 6148914691236517205))) 3689348814741910323))) / 16) + (IntKind.u64.wrap ((Go.bits .and .u64 ((IntKind.u64.wrap ((Go.bits .and .u64 (a0 / 2) 6148914691236517205) + (Go.bits .and .u64 a0 6148914691236517205))) / 4) 3689348814741910323) + (Go.bits .and .u64 (IntKind.u64.wrap ((Go.bits .and .u64 (a0 / 2) 6148914691236517205) + (Go.bits .and .u64 a0 6148914691236517205))) 3689348814741910323))))) 1085102592571150095) / 256))) + ((IntKind.u64.wrap ((Go.bits .and .u64 (IntKind.u64.wrap (((IntKind.u64.wrap ((Go.bits .and .u64 ((IntKind.u64.wrap ((Go.bits .and .u64 (a0 / 2) 6148914691236517205) + (Go.bits .and .u64 a0 6148914691236517205))) / 4) 3689348814741910323) + (Go.bits .and .u64 (IntKind.u64.wrap ((Go.bits .and .u64 (a0 / 2) 6148914691236517205) + (Go.bits .and .u64 a0 6148914691236517205))) 3689348814741910323))) / 16) + (IntKind.u64.wrap ((Go.bits .and .u64 ((IntKind.u64.wrap ((Go.bits .and .u64 (a0 / 2) 6148914691236517205) + (Go.bits .and .u64 a0 6148914691236517205))) / 4) 3689348814741910323) + (Go.bits .and .u64 (IntKind.u64.wrap ((Go.bits .and .u64 (a0 / 2) 6148914691236517205) + (Go.bits .and .u64 a0 6148914691236517205))) 3689348814741910323))))) 1085102592571150095) + ((Go.bits .and .u64 (IntKind.u64.wrap (((IntKind.u64.wrap ((Go.bits .and .u64 ((IntKind.u64.wrap ((Go.bits .and .u64 (a0 / 2) 6148914691236517205) + (Go.bits .and .u64 a0 6148914691236517205))) / 4) 3689348814741910323) + (Go.bits .and .u64 (IntKind.u64.wrap ((Go.bits .and .u64 (a0 / 2) 6148914691236517205) + (Go.bits .and .u64 a0 6148914691236517205))) 3689348814741910323))) / 16) + (IntKind.u64.wrap ((Go.bits .and .u64 ((IntKind.u64.wrap ((Go.bits .and .u64 (a0 / 2) 6148914691236517205) + (Go.bits .and .u64 a0 6148914691236517205))) / 4) 3689348814741910323) + (Go.bits .and .u64 (IntKind.u64.wrap ((Go.bits .and .u64 (a0 / 2) 6148914691236517205) + (Go.bits .and .u64 a0 6148914691236517205))) 3689348814741910323))))) 1085102592571150095) / 256))) / 65536))) + ((IntKind.u64.wrap ((IntKind.u64.wrap ((Go.bits .and .u64 (IntKind.u64.wrap (((IntKind.u64.wrap ((Go.bits .and .u64 ((IntKind.u64.wrap ((Go.bits .and .u64 (a0 / 2) 6148914691236517205) + (Go.bits .and .u64 a0 6148914691236517205))) / 4) 3689348814741910323) + (Go.bits .and .u64 (IntKind.u64.wrap ((Go.bits .and .u64 (a0 / 2) 6148914691236517205) + (Go.bits .and .u64 a0 6148914691236517205))) 3689348814741910323))) / 16) + (IntKind.u64.wrap ((Go.bits .and .u64 ((IntKind.u64.wrap ((Go.bits .and .u64 (a0 / 2) 6148914691236517205) + (Go.bits .and .u64 a0 6148914691236517205))) / 4) 3689348814741910323) + (Go.bits .and .u64 (IntKind.u64.wrap ((Go.bits .and .u64 (a0 / 2) 6148914691236517205) + (Go.bits .and .u64 a0 6148914691236517205))) 3689348814741910323))))) 1085102592571150095) + ((Go.bits .and .u64 (IntKind.u64.wrap (((IntKind.u64.wrap ((Go.bits .and .u64 ((IntKind.u64.wrap ((Go.bits .and .u64 (a0 / 2) 6148914691236517205) + (Go.bits .and .u64 a0 6148914691236517205))) / 4) 3689348814741910323) + (Go.bits .and .u64 (IntKind.u64.wrap ((Go.bits .and .u64 (a0 / 2) 6148914691236517205) + (Go.bits .and .u64 a0 6148914691236517205))) 3689348814741910323))) / 16) + (IntKind.u64.wrap ((Go.bits .and .u64 ((IntKind.u64.wrap ((Go.bits .and .u64 (a0 / 2) 6148914691236517205) + (Go.bits .and .u64 a0 6148914691236517205))) / 4) 3689348814741910323) + (Go.bits .and .u64 (IntKind.u64.wrap ((Go.bits .and .u64 (a0 / 2) 6148914691236517205) + (Go.bits .and .u64 a0 6148914691236517205))) 3689348814741910323))))) 1085102592571150095) / 256))) + ((IntKind.u64.wrap ((Go.bits .and .u64 (IntKind.u64.wrap (((IntKind.u64.wrap ((Go.bits .and .u64 ((IntKind.u64.wrap ((Go.bits .and .u64 (a0 / 2) 6148914691236517205) + (Go.bits .and .u64 a0 6148914691236517205))) / 4) 3689348814741910323) + (Go.bits .and .u64 (IntKind.u64.wrap ((Go.bits .and .u64 (a0 / 2) 6148914691236517205) + (Go.bits .and .u64 a0 6148914691236517205))) 3689348814741910323))) / 16) + (IntKind.u64.wrap ((Go.bits .and .u64 ((IntKind.u64.wrap ((Go.bits .and .u64 (a0 / 2) 6148914691236517205) + (Go.bits .and .u64 a0 6148914691236517205))) / 4) 3689348814741910323) + (Go.bits .and .u64 (IntKind.u64.wrap ((Go.bits .and .u64 (a0 / 2) 6148914691236517205) + (Go.bits .and .u64 a0 6148914691236517205))) 3689348814741910323))))) 1085102592571150095) + ((Go.bits .and .u64 (IntKind.u64.wrap (((IntKind.u64.wrap ((Go.bits .and .u64 ((IntKind.u64.wrap ((Go.bits .and .u64 (a0 / 2) 6148914691236517205) + (Go.bits .and .u64 a0 6148914691236517205))) / 4) 3689348814741910323) + (Go.bits .and .u64 (IntKind.u64.wrap ((Go.bits .and .u64 (a0 / 2) 6148914691236517205) + (Go.bits .and .u64 a0 6148914691236517205))) 3689348814741910323))) / 16) + (IntKind.u64.wrap ((Go.bits .and .u64 ((IntKind.u64.wrap ((Go.bits .and .u64 (a0 / 2) 6148914691236517205) + (Go.bits .and .u64 a0 6148914691236517205))) / 4) 3689348814741910323) + (Go.bits .and .u64 (IntKind.u64.wrap ((Go.bits .and .u64 (a0 / 2) 6148914691236517205) + (Go.bits .and .u64 a0 6148914691236517205))) 3689348814741910323))))) 1085102592571150095) / 256))) / 65536))) / 4294967296)))) 127)
theorem bits_OnesCount64.calls (a0 : Int) (r : Int) (w : World) (h : bits_OnesCount64.f a0 = some r) :
  Calls Try.prog 68 #[.int .u64 a0] w fun e w' => e = .returned (.int .i64 r) ∧ Drawn0 w w' := by
 unfold bits_OnesCount64.f at h; have H := h
 clear h
 obtain rfl := Option.some.inj H
 go_enter Try.func68, Try.ntmps68
 go_wp2
 go_ret
 exact ⟨by first | rfl | (simp; done) | (simp [*]; done), by repeat (first | exact Drawn0.refl _ | apply Drawn0.step)⟩
def impl_ones.f (a0 : Int) : Option (Int) := (bits_OnesCount64.f (IntKind.u64.wrap (a0))).bind fun t262 => (some t262)
theorem impl_ones.calls (a0 : Int) (r : Int) (w : World) (h : impl_ones.f a0 = some r) :
  Calls Try.prog 47 #[.int .i64 a0] w fun e w' => e = .returned (.int .i64 r) ∧ Drawn0 w w' := by
 have H : ((bits_OnesCount64.f (IntKind.u64.wrap (a0))).bind fun t262 => (some t262)) = some r := h
 clear h; replace H := Option.bind_eq_some_iff.mp H; obtain ⟨t262, A20, H⟩ := H
 replace H : (some t262) = some r := H
 have A2 := M.A_ A20; clear A20
 obtain rfl := Option.some.inj H
 go_enter Try.func47, Try.ntmps47
 go_wp2_with (first | ((with_reducible refine gate_callee (f := 68) rfl ?_); refine goesL_ (some 5) rfl rfl Try.func68 (by kernel_rfl) rfl #[.int .u64 (IntKind.u64.wrap (a0))] rfl (by first | rfl | (simp only [M.mt, M.mc, M.mn, M.ld, M.lt]; rfl)) ?_; (with_reducible refine (bits_OnesCount64.calls (IntKind.u64.wrap (a0)) t262 _ A2.out).mono ?_); rintro e w' ⟨rfl, ⟨nd, rfl⟩⟩; refine ⟨_, rfl, ?_⟩))
 go_ret
 exact ⟨by first | rfl | (simp; done) | (simp [*]; done), by repeat (first | exact Drawn0.refl _ | apply Drawn0.step)⟩
def impl_CountOnes.f (a0_0 : Int) (a0_1 : Int) : Option (Int) := (impl_IsTable.f a0_0 a0_1).bind fun t264 => (if t264 = true then ((impl_ones.f a0_1).bind fun t265 => (some t265)) else (some (-1)))
theorem impl_CountOnes.calls (a0_0 : Int) (a0_1 : Int) (r : Int) (w : World) (h : impl_CountOnes.f a0_0 a0_1 = some r) :
  Calls Try.prog 9 #[.agg #[.int .i64 a0_0, .int .i64 a0_1]] w fun e w' => e = .returned (.int .i64 r) ∧ Below w.heap.size w w' := by
 have hu25 := Try.underlying25
 have HB := M.A_ (Below.refl w.heap.size w)
 unfold impl_CountOnes.f at h; have H := h
 clear h; replace H := Option.bind_eq_some_iff.mp H; obtain ⟨t264, A20, H⟩ := H
 replace H : (if t264 = true then ((impl_ones.f a0_1).bind fun t265 => (some t265)) else (some (-1))) = some r := H
 have A2 := M.A_ A20; clear A20
 by_cases c3 : t264 = true
 ·subst c3
  rw [if_pos rfl] at H; (try dsimp only at H); replace H := Option.bind_eq_some_iff.mp H; obtain ⟨t265, A40, H⟩ := H
  replace H : (some t265) = some r := H
  have A4 := M.A_ A40; clear A40
  obtain rfl := Option.some.inj H
  go_enter Try.func9, Try.ntmps9
  go_wp2_with (first | ((with_reducible refine gate_dst (N := 1) rfl ?_); refine box_event ?hg (N := 1) ?hd (cs := #[.int .i64 a0_0, .int .i64 a0_1]) (t := 25) ?hr ?_; (case hd => rfl); (case hg => rfl); (case hr => first | (go_simp; done) | (go_simp; rfl)); intro gb263 hg w5 hbox hb; have n0_ := M.A_ (below_step (M.Lw HB) hb); have n1_ := M.A_ (hbox); have n2_ := M.A_ ((by rw [hg]; exact (below_size (M.Lw HB)) : w.heap.size ≤ gb263)); have n3_ := M.A_ ((by rw [hg]; exact (below_size (M.Lw HB)) : w.heap.size ≤ gb263)); clear HB; have HB := n0_; have BK263 := n1_; have GW263 := n2_; have GE263 := n3_; clear n0_ n1_ n2_ n3_; clear hb hbox hg; have hcz6_0 : w5.cell? ⟨gb263, 0, none⟩ = some (.int .i64 a0_0) := (blk_cell BK263.out 0).trans rfl; have hcz6_1 : w5.cell? ⟨gb263, 1, none⟩ = some (.int .i64 a0_1) := (blk_cell BK263.out 1).trans rfl; have hfz6_0 := blk_frozen BK263.out 0; have hfz6_1 := blk_frozen BK263.out 1) | ((with_reducible refine gate_callee (f := 46) rfl ?_); refine goesL_ (some 4) rfl rfl Try.func46 (by kernel_rfl) rfl #[.agg #[.int .i64 a0_0, .int .i64 a0_1]] rfl (by first | rfl | (simp only [M.mt, M.mc, M.mn, M.ld, M.lt]; rfl)) ?_; (with_reducible refine (impl_IsTable.calls a0_0 a0_1 true _ A2.out).mono ?_); rintro e w7 ⟨rfl, hb⟩; refine ⟨_, rfl, ?_⟩; have n0_ := M.A_ (blk_below (M.Lb BK263) hb); have n1_ := M.A_ (below_step (M.Lw HB) hb); clear BK263; clear HB; have BK263 := n0_; have HB := n1_; clear n0_ n1_; (try clear hb); (try clear hb2); (try clear hk); (try clear hi); have hcz8_0 : w7.cell? ⟨gb263, 0, none⟩ = some (.int .i64 a0_0) := (blk_cell BK263.out 0).trans rfl; have hcz8_1 : w7.cell? ⟨gb263, 1, none⟩ = some (.int .i64 a0_1) := (blk_cell BK263.out 1).trans rfl; have hfz8_0 := blk_frozen BK263.out 0; have hfz8_1 := blk_frozen BK263.out 1) | ((with_reducible refine gate_callee (f := 47) rfl ?_); refine goesL_ (some 8) rfl rfl Try.func47 (by kernel_rfl) rfl #[.int .i64 a0_1] rfl (by first | rfl | (simp only [M.mt, M.mc, M.mn, M.ld, M.lt]; rfl)) ?_; (with_reducible refine (impl_ones.calls a0_1 t265 _ A4.out).mono ?_); rintro e w' ⟨rfl, ⟨nd, rfl⟩⟩; refine ⟨_, rfl, ?_⟩))
  go_ret
  exact ⟨by first | rfl | (simp [*, errW_none, errW_some] <;> rfl), M.Lw HB⟩
 ·replace c3 := Bool.eq_false_iff.mpr c3
  subst c3
  rw [if_neg (show ¬ (false = true) by decide)] at H; (try dsimp only at H)
  obtain rfl := Option.some.inj H
  go_enter Try.func9, Try.ntmps9
  go_wp2_with (first | ((with_reducible refine gate_dst (N := 1) rfl ?_); refine box_event ?hg (N := 1) ?hd (cs := #[.int .i64 a0_0, .int .i64 a0_1]) (t := 25) ?hr ?_; (case hd => rfl); (case hg => rfl); (case hr => first | (go_simp; done) | (go_simp; rfl)); intro gb263 hg w9 hbox hb; have n0_ := M.A_ (below_step (M.Lw HB) hb); have n1_ := M.A_ (hbox); have n2_ := M.A_ ((by rw [hg]; exact (below_size (M.Lw HB)) : w.heap.size ≤ gb263)); have n3_ := M.A_ ((by rw [hg]; exact (below_size (M.Lw HB)) : w.heap.size ≤ gb263)); clear HB; have HB := n0_; have BK263 := n1_; have GW263 := n2_; have GE263 := n3_; clear n0_ n1_ n2_ n3_; clear hb hbox hg; have hcz10_0 : w9.cell? ⟨gb263, 0, none⟩ = some (.int .i64 a0_0) := (blk_cell BK263.out 0).trans rfl; have hcz10_1 : w9.cell? ⟨gb263, 1, none⟩ = some (.int .i64 a0_1) := (blk_cell BK263.out 1).trans rfl; have hfz10_0 := blk_frozen BK263.out 0; have hfz10_1 := blk_frozen BK263.out 1) | ((with_reducible refine gate_callee (f := 46) rfl ?_); refine goesL_ (some 4) rfl rfl Try.func46 (by kernel_rfl) rfl #[.agg #[.int .i64 a0_0, .int .i64 a0_1]] rfl (by first | rfl | (simp only [M.mt, M.mc, M.mn, M.ld, M.lt]; rfl)) ?_; (with_reducible refine (impl_IsTable.calls a0_0 a0_1 false _ A2.out).mono ?_); rintro e w11 ⟨rfl, hb⟩; refine ⟨_, rfl, ?_⟩; have n0_ := M.A_ (blk_below (M.Lb BK263) hb); have n1_ := M.A_ (below_step (M.Lw HB) hb); clear BK263; clear HB; have BK263 := n0_; have HB := n1_; clear n0_ n1_; (try clear hb); (try clear hb2); (try clear hk); (try clear hi)))
  go_ret
  exact ⟨by first | rfl | (simp [*, errW_none, errW_some] <;> rfl), M.Lw HB⟩
end Go.Proofs.Ytodfifkgohjpfaa.Print
namespace Go.Proofs.Ytodfifkgohjpfaa.Print
open Go.RowKit Go.Proofs.YtodfifkgohjpfaaW.PrintWords Go.Proofs.YtodfifkgohjpfaaW.PrintLast Go.Proofs.YtodfifkgohjpfaaW.PrintMore
attribute [local go_sem] max2_int min2_int max_two min_two max_three min_three max_four min_four   -- for this text's walks alone
set_option linter.unusedVariables false
set_option linter.unusedSimpArgs false
open Go.Proofs.Ytodfifkgohjpfaa.M
set_option maxHeartbeats 1600000 in
theorem impl_Table_anf.clo (n v m N : Nat) (hn : n ≤ 5) (hN : N = 2 ^ n) (hv : v < 2 ^ 63) (hm : m < 2 ^ n) (F : Nat) (w : World) (hF : F < w.heap.size)
  (f0 : w.cell? ⟨F, 0, none⟩ = some (.int .i64 (n : Int))) (f1 : w.cell? ⟨F, 1, none⟩ = some (.int .i64 (v : Int))) :
  Calls Try.prog 69 #[.int .i64 (m : Int), .pointer (some ⟨F, 0, none⟩)] w fun e w' => e = .returned (.bool (cf n v.testBit m)) ∧ Below w.heap.size w w' := by
 have huT := Try.underlying25
 have h32 := pow_le_5 hn
 have hsz : impl_Table_size.f (n : Int) (v : Int) = some (N : Int) := by
  unfold impl_Table_size.f
  rw [if_pos (Int.natCast_nonneg n), shl_one (by omega), hN]
 have CS := M.A_ (fun W => impl_Table_size.calls (n : Int) (v : Int) (N : Int) W hsz)
 have CA := M.A_ (fun (x : Nat) (hx : x ≤ 63) W => impl_Table_at.calls (n : Int) (v : Int) (x : Int) _ W (show impl_Table_at.f (n : Int) (v : Int) (x : Int) = some (((v.testBit x).toNat : Nat) : Int) by unfold impl_Table_at.f; rw [if_pos (Int.natCast_nonneg x), bit_nat hv (by omega)]))
 have hc : cf n v.testBit m = xr (fun x => sub x m && v.testBit x) N := by rw [hN]; rfl
 rw [hc]
 have FF := M.A_ (And.intro f0 f1)
 have hN32 : N ≤ 32 := by omega
 have hm32 : m < 32 := by omega
 clear hc hsz hN hv h32 hn hm f0 f1
 have f0 := FF.out.1
 have f1 := FF.out.2
 go_enter Try.func69, Try.ntmps69
 go_wp2_with (first | (go_at_call 51; (with_reducible refine (CS.out _).mono ?_); rintro e w1 ⟨rfl, hb1⟩; have B1 := M.A_ hb1; clear hb1))
 clear f0 f1
 go_loopg [4, 8] N (fun gg v4 v8 wr => ∃ x : Nat, x ≤ N ∧ N - x ≤ gg ∧ v4 = .int .i64 (((xr (fun x => sub x m && v.testBit x) x).toNat : Nat) : Int) ∧ v8 = .int .i64 (x : Int) ∧ Aside0 (Below w.heap.size w wr))
 case atStart => exact ⟨0, Nat.zero_le _, by omega, rfl, rfl, B1⟩
 case round =>
  obtain ⟨x, hx, hg, rfl, rfl, HB⟩ := hrel
  have f0 : wr.cell? ⟨F, 0, none⟩ = some (.int .i64 (n : Int)) := (HB.out.cell (p := ⟨F, 0, none⟩) hF).trans FF.out.1
  have f1 : wr.cell? ⟨F, 1, none⟩ = some (.int .i64 (v : Int)) := (HB.out.cell (p := ⟨F, 1, none⟩) hF).trans FF.out.2
  by_cases hlt : x < N
  ·have hltz : (x : Int) < (N : Int) := by omega
   have ht : (Go.bits .andNot .i64 (x : Int) (m : Int) == 0) = sub x m := by
    rw [andNot_nat (by omega) (by omega)]
    unfold sub
    rw [Bool.eq_iff_iff, beq_iff_eq, decide_eq_true_eq]
    omega
   have HX := M.A_ (show xr (fun x => sub x m && v.testBit x) (x + 1) = (xr (fun x => sub x m && v.testBit x) x ^^ (sub x m && v.testBit x)) from rfl)
   have CX := M.A_ (CA.out x (by omega))
   generalize xr (fun x => sub x m && v.testBit x) x = s at *
   generalize v.testBit x = q at *
   generalize sub x m = u at *
   cases u with
   | false =>
    have HT := M.A_ ht
    go_wp2
    go_roundg (N - (x + 1))
    case measure => omega
    case rel => exact ⟨x + 1, by omega, by omega, by rw [HX.out]; cases s <;> cases q <;> rfl, by go_num, HB⟩
   | true =>
    have HT := M.A_ ht
    have HQ := M.A_ (show Go.bits .xor .i64 ((s.toNat : Nat) : Int) ((q.toNat : Nat) : Int) = (((s ^^ q).toNat : Nat) : Int) by cases s <;> cases q <;> rfl)
    go_wp2_with (first | (go_at_call 41; (with_reducible refine (CX.out _).mono ?_); rintro e w2 ⟨rfl, hb2⟩; have B2 := M.A_ (HB.out.trans (hb2.mono HB.out.size)); clear hb2))
    go_roundg (N - (x + 1))
    case measure => omega
    case rel => exact ⟨x + 1, by omega, by omega, by rw [HX.out, Bool.true_and, ← HQ.out], by go_num, B2⟩
  ·obtain rfl : x = N := by omega
   obtain ⟨s, hs⟩ : ∃ s, xr (fun y => sub y m && v.testBit y) x = s := ⟨_, rfl⟩
   rw [hs]
   have HS := M.A_ hs; clear hs
   have HT := M.A_ (show (((s.toNat : Nat) : Int) == 1) = s by cases s <;> rfl)
   go_wp2
   go_ret
   exact ⟨by first | rfl | (rw [HS.out]; exact congrArg (fun b => Ending.returned (Value.bool b)) HT.out), HB.out⟩
set_option maxHeartbeats 1600000 in
theorem impl_Table_anf.aux (N M : Nat) (hN : N ≤ 5) (hM : M ≤ 32) (e10 : wrap64 ((2 : Int) ^ N) = (M : Int)) (g : Nat → Bool) (F : Nat) (w : World)
  (hc : ∀ (x : Nat) (W : World), x < M → Below w.heap.size w W → Calls Try.prog 69 #[.int .i64 (x : Int), .pointer (some ⟨F, 0, none⟩)] W fun e W' => e = .returned (.bool (g x)) ∧ Below W.heap.size W W') :
  Calls Try.prog 39 #[.int .i64 (N : Int), .func (.func 69) #[] #[.pointer (some ⟨F, 0, none⟩)]] w fun e w' => e = .returned (.agg #[.int .i64 (N : Int), .int .i64 ((prefW g M : Nat) : Int)]) ∧ Below w.heap.size w w' := by
 have huT := Try.underlying25
 have hH := Aside0.mk hc; clear hc
 have hS := Aside0.mk (impl_makeTable.I.start w N g)
 go_enter Try.func39, Try.ntmps39
 go_wp2
 rw [e10]
 clear e10
 go_loopw [11] (fun v11 wr => ∃ x : Nat, x ≤ M ∧ v11 = .int .i64 (x : Int) ∧ Aside0 (impl_makeTable.I w N g x wr)) (fun v11 _ => M - (intOf v11).toNat)
 case atStart => exact ⟨0, Nat.zero_le _, rfl, hS⟩
 case round =>
  obtain ⟨x, hx, rfl, HI⟩ := hrel; clear hS
  have c0 : wr.cell? ⟨w.heap.size, 0, none⟩ = some (.int .i64 0) := blk_cell HI.out.1 0
  have c1 : wr.cell? ⟨w.heap.size, 1, none⟩ = some (.int .i64 0) := blk_cell HI.out.1 1
  have z0 := blk_frozen HI.out.1 0
  have z1 := blk_frozen HI.out.1 1
  have d0 : wr.cell? ⟨w.heap.size + 1, 0, none⟩ = some (.int .i64 (N : Int)) := blk_cell HI.out.2.1 0
  have d1 : wr.cell? ⟨w.heap.size + 1, 1, none⟩ = some (.int .i64 ((prefW g x : Nat) : Int)) := blk_cell HI.out.2.1 1
  by_cases hlt : x < M
  ·have hC := Aside0.mk (hH.out x wr hlt HI.out.2.2)
   cases hg : g x with
   | false =>
    rw [hg] at hC
    have HG := Aside0.mk hg; clear hg
    go_wp2_with (first | (go_at_call 69; (with_reducible refine hC.out.mono ?_); rintro e w1 ⟨rfl, hb⟩))
    go_roundw
    case rel => exact ⟨x + 1, by omega, by go_num, ⟨(HI.out.call hb).skip HG.out⟩⟩
    case measure => simp [intOf]; omega
   | true =>
    rw [hg] at hC
    have HG := Aside0.mk hg; clear hg
    go_wp2_with (first | (go_at_call 69; (with_reducible refine hC.out.mono ?_); rintro e w1 ⟨rfl, hb⟩))
    have HI1 := Aside0.mk (HI.out.call hb)
    have d1' : w1.cell? ⟨w.heap.size + 1, 1, none⟩ = some (.int .i64 ((prefW g x : Nat) : Int)) := blk_cell HI1.out.2.1 1
    have z1' : w1.frozen? ⟨w.heap.size + 1, 1, none⟩ = false := blk_frozen HI1.out.2.1 1
    clear c0 c1 z0 z1 d0 d1
    go_region
    all_goals
     go_wp2
     go_roundw
     case rel =>
      refine ⟨x + 1, by omega, by go_num, ?_⟩
      ·exact ⟨(HI1.out.set HG.out (by omega) (by rw [show shl .i64 1 (x : Int) = wrap64 (2 ^ x) from by unfold shl; rw [min_bits (by omega), Int.one_mul, i64_w]])).drew⟩
     case measure => simp [intOf]; omega
  ·obtain rfl : x = M := by omega
   go_wp2
   exact bodyPost_ret (v := .agg #[.int .i64 (N : Int), .int .i64 ((prefW g x : Nat) : Int)]) (by simp [results, Try.results39, go_sem, c0, c1, d0, d1]) rfl ⟨rfl, (HI.out.2.2.setCell (p := ⟨w.heap.size, 0, none⟩) (Nat.le_refl _) _).setCell (p := ⟨w.heap.size, 1, none⟩) (Nat.le_refl _) _⟩
def impl_Table_anf.f (a0_0 : Int) (a0_1 : Int) : Option (Int × Int) := if isT a0_0 a0_1 = true then some (a0_0, ((prefW (cf a0_0.toNat a0_1.toNat.testBit) (2 ^ a0_0.toNat) : Nat) : Int)) else none
theorem impl_Table_anf.mk (n v : Nat) (hn : n ≤ 5) (hv : v < 2 ^ 63) (F : Nat) (w : World) (hF : F < w.heap.size) (f0 : w.cell? ⟨F, 0, none⟩ = some (.int .i64 (n : Int))) (f1 : w.cell? ⟨F, 1, none⟩ = some (.int .i64 (v : Int))) :
  Calls Try.prog 39 #[.int .i64 (n : Int), .func (.func 69) #[] #[.pointer (some ⟨F, 0, none⟩)]] w fun e w' => e = .returned (.agg #[.int .i64 (n : Int), .int .i64 ((prefW (cf n v.testBit) (2 ^ n) : Nat) : Int)]) ∧ Below w.heap.size w w' := by
 have h16 : 2 ^ n ≤ 32 := pow_le_5 hn
 have e10 : wrap64 ((2 : Int) ^ n) = ((2 ^ n : Nat) : Int) := by
  have : ((2 : Int) ^ n) = ((2 ^ n : Nat) : Int) := by push_cast; rfl
  rw [this]
  obtain ⟨P, hP⟩ : ∃ P, P = 2 ^ n := ⟨_, rfl⟩
  rw [← hP] at h16 ⊢
  exact w64 (by omega) (by omega)
 exact impl_Table_anf.aux n (2 ^ n) (by omega) (by omega) e10 (cf n v.testBit) F w (fun x W hx hb' => impl_Table_anf.clo n v x (2 ^ n) hn rfl hv hx F W (Nat.lt_of_lt_of_le hF hb'.size) ((hb'.cell (p := ⟨F, 0, none⟩) hF).trans f0) ((hb'.cell (p := ⟨F, 1, none⟩) hF).trans f1))
set_option maxHeartbeats 1600000 in
theorem impl_Table_anf.nat (n v : Nat) (hn : n ≤ 5) (hv : v < 2 ^ 63) (w : World) :
  Calls Try.prog 48 #[.agg #[.int .i64 (n : Int), .int .i64 (v : Int)]] w fun e w' => e = .returned (.agg #[.int .i64 (n : Int), .int .i64 ((prefW (cf n v.testBit) (2 ^ n) : Nat) : Int)]) ∧ Below w.heap.size w w' := by
 have huT := Try.underlying25
 have HC := M.A_ (impl_Table_anf.mk n v hn hv w.heap.size ((w.alloc (.cells #[.int .i64 (n : Int), .int .i64 (v : Int)] 25)).alloc (.cells #[.int .i64 0, .int .i64 0] 25)) (by simp; omega) (by go_simp) (by go_simp))
 have HR : Aside0 (((w.alloc (.cells #[.int .i64 (n : Int), .int .i64 (v : Int)] 25)).alloc (.cells #[.int .i64 0, .int .i64 0] 25)).heap[w.heap.size + 1]? = some (.cells #[.int .i64 0, .int .i64 0] 25 (0, 0))) := ⟨by simpa using blk_new (w.alloc (.cells #[.int .i64 (n : Int), .int .i64 (v : Int)] 25)) (.cells #[.int .i64 0, .int .i64 0] 25)⟩
 have HB : Aside0 (Below w.heap.size w ((w.alloc (.cells #[.int .i64 (n : Int), .int .i64 (v : Int)] 25)).alloc (.cells #[.int .i64 0, .int .i64 0] 25))) := ⟨((Below.refl _ _).alloc (Nat.le_refl _) _).alloc (by simp) _⟩
 clear hn hv
 generalize ((prefW (cf n v.testBit) (2 ^ n) : Nat) : Int) = q at *
 go_enter Try.func48, Try.ntmps48
 go_wp2_with (first | (go_at_call 39; (with_reducible refine HC.out.mono ?_); rintro e w1 ⟨rfl, hb1⟩; have RB := M.A_ (blk_below HR.out hb1); have BB := M.A_ (HB.out.trans (hb1.mono HB.out.size)); clear hb1; have r0 : w1.cell? ⟨w.heap.size + 1, 0, none⟩ = some (.int .i64 0) := blk_cell RB.out 0; have r1 : w1.cell? ⟨w.heap.size + 1, 1, none⟩ = some (.int .i64 0) := blk_cell RB.out 1; have z0 := blk_frozen RB.out 0; have z1 := blk_frozen RB.out 1))
 exact bodyPost_ret (v := .agg #[.int .i64 (n : Int), .int .i64 q]) (by simp [results, Try.results48, go_sem, r0, r1]) rfl ⟨rfl, (BB.out.setCell (p := ⟨w.heap.size + 1, 0, none⟩) (by show w.heap.size ≤ w.heap.size + 1; omega) _).setCell (p := ⟨w.heap.size + 1, 1, none⟩) (by show w.heap.size ≤ w.heap.size + 1; omega) _⟩
theorem impl_Table_anf.calls (a0_0 : Int) (a0_1 : Int) (r1 : Int) (r2 : Int) (w : World) (h : impl_Table_anf.f a0_0 a0_1 = some (r1, r2)) :
  Calls Try.prog 48 #[.agg #[.int .i64 a0_0, .int .i64 a0_1]] w fun e w' => e = .returned (.agg #[.int .i64 r1, .int .i64 r2]) ∧ Below w.heap.size w w' := by
 unfold impl_Table_anf.f at h
 by_cases hc : isT a0_0 a0_1 = true
 ·rw [if_pos hc] at h
  obtain ⟨n, v, rfl, rfl, hn, hv⟩ := isT_nat hc
  have h2 := Option.some.inj h
  simp only [Prod.mk.injEq, Int.toNat_natCast] at h2
  obtain ⟨rfl, rfl⟩ := h2
  exact impl_Table_anf.nat n v hn (Nat.lt_of_lt_of_le hv (Nat.le_of_lt (full_p63 hn))) w
 ·rw [if_neg hc] at h; cases h
end Go.Proofs.Ytodfifkgohjpfaa.Print
namespace Go.Proofs.Ytodfifkgohjpfaa.Print
open Go.RowKit Go.Proofs.YtodfifkgohjpfaaW.PrintWords Go.Proofs.YtodfifkgohjpfaaW.PrintLast Go.Proofs.YtodfifkgohjpfaaW.PrintMore
attribute [local go_sem] max2_int min2_int max_two min_two max_three min_three max_four min_four   -- for this text's walks alone
set_option linter.unusedVariables false
set_option linter.unusedSimpArgs false
open Go.Proofs.Ytodfifkgohjpfaa.M
theorem impl_degree.ones_pc {w : Nat} (h : w < 2 ^ 32) : impl_ones.f w = some ((pc w : Nat) : Int) := by
 unfold impl_ones.f
 rw [u64n (by omega)]
 unfold bits_OnesCount64.f
 rw [sA_eq h, sB_eq (sA_lt h), sC_eq (sB_lt (sA_lt h)), Option.bind_some]
 exact congrArg some (swar_end h rfl _ rfl)
def impl_degree.most (p : Nat → Bool) : Nat → Int
 | 0 => -1
 | m + 1 => if p m = true then mx (impl_degree.most p m) ((pc m : Nat) : Int) else impl_degree.most p m
set_option maxHeartbeats 4000000 in
set_option maxRecDepth 100000 in
theorem impl_degree.call (n M : Nat) (hn : n ≤ 5) (hM : M = 2 ^ n) (g : Nat) (lb : Array Value) (eg : ∀ args w, (callFunc g args).run Try.prog w = .ok (.enter g args) w) (p : Nat → Bool) (w : World)
  (hp : ∀ (x : Nat) (W : World), x < M → Below w.heap.size w W → Calls Try.prog g (#[.int .i64 (x : Int)] ++ lb) W fun e W' => e = .returned (.bool (p x)) ∧ Below W.heap.size W W') :
  Calls Try.prog 49 #[.int .i64 (n : Int), .func (.func g) #[] lb] w fun e w' => e = .returned (.int .i64 (impl_degree.most p M)) ∧ Below w.heap.size w w' := by
 have h32 := pow_le_5 hn
 have HP := Aside0.mk hp
 have e10 : wrap64 ((2 : Int) ^ n) = (M : Int) := by
  have : ((2 : Int) ^ n) = ((2 ^ n : Nat) : Int) := by push_cast; rfl
  rw [this, ← hM]
  exact w64 (by omega) (by omega)
 have hM32 : M ≤ 32 := by omega
 clear hp hM h32
 go_enter Try.func49, Try.ntmps49
 go_wp2
 rw [e10]
 clear e10
 go_loopg [5, 9] M (fun gg v5 v9 wr => ∃ x : Nat, x ≤ M ∧ M - x ≤ gg ∧ v5 = .int .i64 (impl_degree.most p x) ∧ v9 = .int .i64 (x : Int) ∧ Aside0 (Below w.heap.size w wr))
 case atStart => exact ⟨0, Nat.zero_le _, by omega, rfl, rfl, ⟨Below.refl _ _⟩⟩
 case round =>
  obtain ⟨x, hx, hg, rfl, rfl, HB⟩ := hrel
  by_cases hlt : x < M
  ·have hltz : (x : Int) < (M : Int) := by omega
   have hcall := HP.out x wr hlt HB.out
   have hnext : impl_degree.most p (x + 1) = if p x = true then mx (impl_degree.most p x) ((pc x : Nat) : Int) else impl_degree.most p x := rfl
   have HO := Aside0.mk (impl_degree.ones_pc (w := x) (by omega))
   generalize impl_degree.most p x = s at *
   generalize pc x = c at *
   generalize p x = q at *
   have HC := Aside0.mk hcall; have HN := Aside0.mk hnext; clear hcall hnext
   cases q with
   | false =>
    go_wp2_with (first | (go_at_fn g; refine HC.out.mono ?_; rintro e w1 ⟨rfl, hb⟩; have B1 := Aside0.mk (HB.out.trans (hb.mono HB.out.size)); clear hb))
    go_roundg (M - (x + 1))
    case measure => omega
    case rel => exact ⟨x + 1, by omega, by omega, by rw [HN.out, if_neg (by simp)], by go_num, B1⟩
   | true =>
    go_wp2_with (first | (go_at_fn g; refine HC.out.mono ?_; rintro e w1 ⟨rfl, hb⟩; have B1 := Aside0.mk (HB.out.trans (hb.mono HB.out.size)); clear hb) | (go_at_call 47; (with_reducible refine (impl_ones.calls _ _ _ HO.out).mono ?_); rintro e w' ⟨rfl, ⟨nd2, rfl⟩⟩))
    all_goals
     go_roundg (M - (x + 1))
     case measure => omega
     case rel =>
      refine ⟨x + 1, by omega, by omega, ?_, by go_num, ⟨pw_below_drewN B1.out _⟩⟩
      rw [HN.out, if_pos (by simp)]
      unfold mx
      first
      | (rw [if_pos (by omega)]; done)
      | (rw [if_neg (by omega)]; done)
      | (split <;> first | rfl | (congr 1; omega))
  ·obtain rfl : x = M := by omega
   go_wp2
   go_ret
   exact ⟨rfl, HB.out⟩
end Go.Proofs.Ytodfifkgohjpfaa.Print
namespace Go.Proofs.Ytodfifkgohjpfaa.Print
open Go.RowKit Go.Proofs.YtodfifkgohjpfaaW.PrintWords Go.Proofs.YtodfifkgohjpfaaW.PrintLast Go.Proofs.YtodfifkgohjpfaaW.PrintMore
attribute [local go_sem] max2_int min2_int max_two min_two max_three min_three max_four min_four   -- for this text's walks alone
set_option linter.unusedVariables false
set_option linter.unusedSimpArgs false
open Go.Proofs.Ytodfifkgohjpfaa.M
def impl_DegreeMod2.f (a0_0 : Int) (a0_1 : Int) : Option (Int) :=
 (impl_IsTable.f a0_0 a0_1).bind fun q => if q = true then (if isT a0_0 a0_1 = true then some (impl_degree.most (cf a0_0.toNat a0_1.toNat.testBit) (2 ^ a0_0.toNat)) else none) else some (-2)
theorem impl_DegreeMod2.clo (B n g x : Nat) (hg : g < 2 ^ 63) (hx : x ≤ 63) (w : World) (h0 : w.cell? ⟨B, 0, none⟩ = some (.int .i64 (n : Int))) (h1 : w.cell? ⟨B, 1, none⟩ = some (.int .i64 (g : Int))) :
  Calls Try.prog 50 #[.int .i64 (x : Int), .pointer (some ⟨B, 0, none⟩)] w fun e w' => e = .returned (.bool (g.testBit x)) ∧ Below w.heap.size w w' := by
 have huT := Try.underlying25
 have CA := M.A_ (fun W => impl_Table_at.calls (n : Int) (g : Int) (x : Int) _ W (show impl_Table_at.f (n : Int) (g : Int) (x : Int) = some (((g.testBit x).toNat : Nat) : Int) by unfold impl_Table_at.f; rw [if_pos (Int.natCast_nonneg x), bit_nat hg (by omega)]))
 have HQ : ∀ q : Bool, (((q.toNat : Nat) : Int) == 1) = q := fun q => by cases q <;> rfl
 clear hg hx
 generalize g.testBit x = q at *
 have HT := M.A_ (HQ q)
 clear HQ
 go_enter Try.func50, Try.ntmps50
 go_wp2_with (first | (go_at_call 41; (with_reducible refine (CA.out _).mono ?_); rintro e w1 ⟨rfl, hb⟩; have B1 := M.A_ hb; clear hb))
 go_ret
 exact ⟨congrArg (fun b => Ending.returned (Value.bool b)) HT.out, B1.out⟩
set_option maxHeartbeats 4000000 in
set_option maxRecDepth 100000 in
theorem impl_DegreeMod2.good (n v : Nat) (hn : n ≤ 5) (hv : v < 2 ^ 2 ^ n) (hq : impl_IsTable.f (n : Int) (v : Int) = some true) (w : World) :
  Calls Try.prog 10 #[.agg #[.int .i64 (n : Int), .int .i64 (v : Int)]] w fun e w' => e = .returned (.int .i64 (impl_degree.most (cf n v.testBit) (2 ^ n))) ∧ Below w.heap.size w w' := by
 have huT := Try.underlying25
 have ht := isT_mk hn hv
 have h63 := full_p63 hn
 have hp32 := pow_le_5 hn
 obtain ⟨g, hg⟩ : ∃ g, prefW (cf n v.testBit) (2 ^ n) = g := ⟨_, rfl⟩
 have hgl : g < 2 ^ 63 := by rw [← hg]; exact Nat.lt_trans (prefW_lt _ _) h63
 have hanf : impl_Table_anf.f (n : Int) (v : Int) = some ((n : Int), (g : Int)) := by unfold impl_Table_anf.f; rw [if_pos ht, Int.toNat_natCast, Int.toNat_natCast, hg]
 have hbits : ∀ x, x < 2 ^ n → g.testBit x = cf n v.testBit x := fun x hx => by rw [← hg, testBit_prefW, decide_eq_true hx, Bool.true_and]
 obtain ⟨W0, hW0⟩ : ∃ W0, W0 = w.alloc (.cells #[.int .i64 (n : Int), .int .i64 (v : Int)] 25) := ⟨_, rfl⟩
 have HB : Below w.heap.size w W0 := by rw [hW0]; exact (Below.refl _ _).alloc (Nat.le_refl _) _
 have c0 : W0.heap[w.heap.size]? = some (.cells #[.int .i64 (n : Int), .int .i64 (v : Int)] 25 (0, 0)) := by rw [hW0]; exact blk_new w _
 have CT : Aside0 (∀ W, Calls Try.prog 46 #[.agg #[.int .i64 (n : Int), .int .i64 (v : Int)]] W fun e w' => e = .returned (.bool true) ∧ Below W.heap.size W w') := ⟨fun W => impl_IsTable.calls (n : Int) (v : Int) true W hq⟩
 have CC : Aside0 (∀ W, Calls Try.prog 48 #[.agg #[.int .i64 (n : Int), .int .i64 (v : Int)]] W fun e w' => e = .returned (.agg #[.int .i64 (n : Int), .int .i64 (g : Int)]) ∧ Below W.heap.size W w') := ⟨fun W => impl_Table_anf.calls (n : Int) (v : Int) (n : Int) (g : Int) W hanf⟩
 have CD : Aside0 (∀ B W, B < W.heap.size → W.cell? ⟨B, 0, none⟩ = some (.int .i64 (n : Int)) → W.cell? ⟨B, 1, none⟩ = some (.int .i64 (g : Int)) → Calls Try.prog 49 #[.int .i64 (n : Int), .func (.func 50) #[] #[.pointer (some ⟨B, 0, none⟩)]] W fun e w' => e = .returned (.int .i64 (impl_degree.most (cf n v.testBit) (2 ^ n))) ∧ Below W.heap.size W w') := ⟨fun B W hB h0 h1 =>
  impl_degree.call n (2 ^ n) hn rfl 50 #[.pointer (some ⟨B, 0, none⟩)] (enters_of Try.func50 (by kernel_rfl) rfl) (cf n v.testBit) W (fun x W' hx hb => by
   rw [← hbits x hx]
   exact impl_DegreeMod2.clo B n g x hgl (by omega) W' ((hb.cell (p := ⟨B, 0, none⟩) hB).trans h0) ((hb.cell (p := ⟨B, 1, none⟩) hB).trans h1))⟩
 have HBB := M.A_ HB; have CW := M.A_ hW0; have C0 := M.A_ c0; clear HB hW0 c0 hq hanf hbits hgl hg hv ht h63 hp32 hn
 generalize impl_degree.most (cf n v.testBit) (2 ^ n) = R at *
 go_enter Try.func10, Try.ntmps10
 go_wp2_with (first | (go_at_call 46; rw [← CW.out]; (with_reducible refine (CT.out _).mono ?_); rintro e w1 ⟨rfl, hb⟩; have B1 := M.A_ hb; clear hb; have p0 := blk_cell (blk_below C0.out B1.out) 0; have p1 := blk_cell (blk_below C0.out B1.out) 1) | (go_at_call 48; (with_reducible refine (CC.out _).mono ?_); rintro e w2 ⟨rfl, hb⟩; have B2 := M.A_ (B1.out.trans (hb.mono B1.out.size)); clear hb; have q0 := blk_cell (blk_alloc (blk_below C0.out B2.out) (.cells #[.int .i64 (n : Int), .int .i64 (g : Int)] 25 (0, 0))) 0) | (go_at_call 49; (with_reducible refine (CD.out w2.heap.size _ (by (try rw [World.alloc_eq]); simp) ((blk_cell (blk_new w2 (.cells #[.int .i64 (n : Int), .int .i64 (g : Int)] 25 (0, 0))) 0).trans rfl) ((blk_cell (blk_new w2 (.cells #[.int .i64 (n : Int), .int .i64 (g : Int)] 25 (0, 0))) 1).trans rfl)).mono ?_); rintro e w3 ⟨rfl, hb⟩; have B3 := M.A_ hb; clear hb))
 go_ret
 have B4 := B2.out.alloc B2.out.size (.cells #[.int .i64 (n : Int), .int .i64 (g : Int)] 25 (0, 0))
 have B5 := B4.trans (B3.out.mono B4.size)
 exact ⟨rfl, HBB.out.trans (B5.mono HBB.out.size)⟩
theorem impl_DegreeMod2.bad (a b : Int) (hq : impl_IsTable.f a b = some false) (w : World) :
  Calls Try.prog 10 #[.agg #[.int .i64 a, .int .i64 b]] w fun e w' => e = .returned (.int .i64 (-2)) ∧ Below w.heap.size w w' := by
 have huT := Try.underlying25
 have CT : Aside0 (∀ W, Calls Try.prog 46 #[.agg #[.int .i64 a, .int .i64 b]] W fun e w' => e = .returned (.bool false) ∧ Below W.heap.size W w') := ⟨fun W => impl_IsTable.calls a b false W hq⟩
 have HB : Aside0 (Below w.heap.size w (w.alloc (.cells #[.int .i64 a, .int .i64 b] 25))) := ⟨(Below.refl _ _).alloc (Nat.le_refl _) _⟩
 clear hq
 go_enter Try.func10, Try.ntmps10
 go_wp2_with (first | (go_at_call 46; (with_reducible refine (CT.out _).mono ?_); rintro e w1 ⟨rfl, hb⟩))
 go_ret
 exact ⟨rfl, HB.out.trans (hb.mono HB.out.size)⟩
theorem impl_DegreeMod2.calls (a0_0 : Int) (a0_1 : Int) (r : Int) (w : World) (h : impl_DegreeMod2.f a0_0 a0_1 = some r) :
  Calls Try.prog 10 #[.agg #[.int .i64 a0_0, .int .i64 a0_1]] w fun e w' => e = .returned (.int .i64 r) ∧ Below w.heap.size w w' := by
 unfold impl_DegreeMod2.f at h
 obtain ⟨q, hq, h⟩ := Option.bind_eq_some_iff.mp h
 cases q with
 | false =>
  rw [if_neg (by decide)] at h
  rw [← Option.some.inj h]
  exact impl_DegreeMod2.bad a0_0 a0_1 hq w
 | true =>
  rw [if_pos rfl] at h
  by_cases hc : isT a0_0 a0_1 = true
  ·rw [if_pos hc] at h
   obtain ⟨n, v, rfl, rfl, hn, hv⟩ := isT_nat hc
   rw [Int.toNat_natCast, Int.toNat_natCast] at h
   rw [← Option.some.inj h]
   exact impl_DegreeMod2.good n v hn hv hq w
  ·rw [if_neg hc] at h; cases h
end Go.Proofs.Ytodfifkgohjpfaa.Print
namespace Go.Proofs.Ytodfifkgohjpfaa.Print
open Go.RowKit Go.Proofs.YtodfifkgohjpfaaW.PrintWords Go.Proofs.YtodfifkgohjpfaaW.PrintLast Go.Proofs.YtodfifkgohjpfaaW.PrintMore
attribute [local go_sem] max2_int min2_int max_two min_two max_three min_three max_four min_four   -- for this text's walks alone
set_option linter.unusedVariables false
set_option linter.unusedSimpArgs false
set_option maxHeartbeats 8000000
set_option maxRecDepth 100000
def laws_sameInts.l0 : Nat → List Int → List Int → Int → Option (Bool)
 | 0, _, _, _ => none
 | k + 1, x0, x1, x5 => if x5 < (x0.length : Int) then (if 0 ≤ x5 then (if x5 < (x1.length : Int) then (if (rd x0 x5) = (rd x1 x5) then (laws_sameInts.l0 k x0 x1 (wrap64 (x5 + 1))) else (some false)) else (none)) else (none)) else (some true)
def laws_sameInts.f (k : Nat) (l0 : List Int) (l1 : List Int) : Option (Bool) := if (l0.length : Int) = (l1.length : Int) then (laws_sameInts.l0 k l0 l1 0) else (some false)
theorem laws_sameInts.calls (k : Nat) (A0 : Option Addr) (c0 : Nat) (l0 : List Int) (A1 : Option Addr) (c1 : Nat) (l1 : List Int) (r : Bool) (w : World) (hr0 : Kd.C (Kd.int .i64) w A0 l0.length l0) (hc0 : l0.length ≤ c0) (hr1 : Kd.C (Kd.int .i64) w A1 l1.length l1) (hc1 : l1.length ≤ c1) (h : laws_sameInts.f k l0 l1 = some r) :
  Calls Try.prog 11 #[.slice A0 l0.length c0, .slice A1 l1.length c1] w fun e w' => e = .returned (.bool r) ∧ Drawn0 w w' := by
 have HR0 := M.A_ hr0; have HC0 := M.A_ hc0; clear hr0 hc0; have HR1 := M.A_ hr1; have HC1 := M.A_ hc1; clear hr1 hc1
 have H : (if (l0.length : Int) = (l1.length : Int) then (laws_sameInts.l0 k l0 l1 0) else (some false)) = some r := h
 clear h
 by_cases c3 : (l0.length : Int) = (l1.length : Int)
 ·rw [if_pos c3] at H
  have c3b0 : ((l0.length : Int) == (l1.length : Int)) = true := beq_iff_eq.mpr c3
  have c3b1 : ((l0.length : Int) != (l1.length : Int)) = false := bne_eq_false_iff_eq.mpr c3
  have c3b2 : (l0.length == l1.length) = true := by first | simpa using c3 | (simp at c3 ⊢; omega)
  clear c3
  have H' := M.A_ H
  clear H
  go_enter Try.func11, Try.ntmps11
  go_wp2
  repeat (go_quiet (fail); try go_wp2)
  go_loopg [5] k (fun kq v5 w' => ∃ (x5_1 : Int), v5 = .int .i64 x5_1 ∧ Aside0 (laws_sameInts.l0 kq l0 l1 x5_1 = some r) ∧ Aside0 (kq ≤ k) ∧ Drawn0 w w')
  case atStart => exact ⟨(0), (by first | rfl | (simp; done) | (simp [*]; done)), H', ⟨Nat.le_refl _⟩, by repeat (first | exact Drawn0.refl _ | apply Drawn0.step)⟩
  case round =>
   clear H'; (try clear c1); (try clear p2); (try clear c3); (try clear c3b0); (try clear c3b1); (try clear c3b2)
   obtain ⟨x5_1, rfl, HA, HK1, ⟨m1, rfl⟩⟩ := hrel
   cases gk with
   | zero => exact absurd HA.out (by simp [laws_sameInts.l0])
   | succ k1 =>
    have H := HA.out
    clear HA
    simp only [laws_sameInts.l0] at H
    by_cases c4 : x5_1 < (l0.length : Int)
    ·rw [if_pos c4] at H
     have c4b0 : decide (x5_1 < (l0.length : Int)) = true := decide_eq_true c4
     clear c4
     by_cases c5 : 0 ≤ x5_1
     ·rw [if_pos c5] at H
      have c5b0 : decide (0 ≤ x5_1) = true := decide_eq_true c5
      clear c5
      by_cases c6 : x5_1 < (l1.length : Int)
      ·rw [if_pos c6] at H
       have c6b0 : decide (x5_1 < (l1.length : Int)) = true := decide_eq_true c6
       clear c6
       by_cases c7 : (rd l0 x5_1) = (rd l1 x5_1)
       ·rw [if_pos c7] at H
        have c7b0 : ((rd l0 x5_1) == (rd l1 x5_1)) = true := beq_iff_eq.mpr c7
        have c7b1 : ((rd l0 x5_1) != (rd l1 x5_1)) = false := bne_eq_false_iff_eq.mpr c7
        clear c7
        have H' := M.A_ H
        clear H
        have p266 : 0 ≤ (x5_1 : Int) := of_decide_eq_true (by first | (with_reducible assumption) | assumption)
        have q266 : x5_1 < (l0.length : Int) := of_decide_eq_true (by first | (with_reducible assumption) | assumption)
        obtain ⟨ad266, e266, hx266_0⟩ := Kd.at_int HR0.out x5_1 p266 q266
        cases e266
        replace p266 := eq_true p266
        replace q266 := eq_true q266
        have p267 : 0 ≤ (x5_1 : Int) := of_decide_eq_true (by first | (with_reducible assumption) | assumption)
        have q267 : x5_1 < (l1.length : Int) := of_decide_eq_true (by first | (with_reducible assumption) | assumption)
        obtain ⟨ad267, e267, hx267_0⟩ := Kd.at_int HR1.out x5_1 p267 q267
        cases e267
        replace p267 := eq_true p267
        replace q267 := eq_true q267
        go_wp2
        repeat (go_quiet (fail); try go_wp2)
        go_roundg k1
        case measure => have := HK1.out; omega
        case rel => exact ⟨(wrap64 (x5_1 + 1)), (by first | rfl | (simp; done) | (simp [*]; done)), H', ⟨by have := HK1.out; omega⟩, by repeat (first | exact Drawn0.refl _ | apply Drawn0.step)⟩
       ·rw [if_neg c7] at H
        have c7b0 : ((rd l0 x5_1) == (rd l1 x5_1)) = false := beq_eq_false_iff_ne.mpr c7
        have c7b1 : ((rd l0 x5_1) != (rd l1 x5_1)) = true := bne_iff_ne.mpr c7
        obtain rfl := Option.some.inj H
        have p266 : 0 ≤ (x5_1 : Int) := of_decide_eq_true (by first | (with_reducible assumption) | assumption)
        have q266 : x5_1 < (l0.length : Int) := of_decide_eq_true (by first | (with_reducible assumption) | assumption)
        obtain ⟨ad266, e266, hx266_0⟩ := Kd.at_int HR0.out x5_1 p266 q266
        cases e266
        replace p266 := eq_true p266
        replace q266 := eq_true q266
        have p267 : 0 ≤ (x5_1 : Int) := of_decide_eq_true (by first | (with_reducible assumption) | assumption)
        have q267 : x5_1 < (l1.length : Int) := of_decide_eq_true (by first | (with_reducible assumption) | assumption)
        obtain ⟨ad267, e267, hx267_0⟩ := Kd.at_int HR1.out x5_1 p267 q267
        cases e267
        replace p267 := eq_true p267
        replace q267 := eq_true q267
        go_wp2
        repeat (go_quiet (fail); try go_wp2)
        go_ret
        exact ⟨by first | rfl | (simp; done) | (simp [*]; done), by repeat (first | exact Drawn0.refl _ | apply Drawn0.step)⟩
      ·rw [if_neg c6] at H
       exact absurd H (by simp)
     ·rw [if_neg c5] at H
      exact absurd H (by simp)
    ·rw [if_neg c4] at H
     have c4b0 : decide (x5_1 < (l0.length : Int)) = false := decide_eq_false c4
     clear c4
     obtain rfl := Option.some.inj H
     go_wp2
     repeat (go_quiet (fail); try go_wp2)
     go_ret
     exact ⟨by first | rfl | (simp; done) | (simp [*]; done), by repeat (first | exact Drawn0.refl _ | apply Drawn0.step)⟩
 ·rw [if_neg c3] at H
  have c3b0 : ((l0.length : Int) == (l1.length : Int)) = false := beq_eq_false_iff_ne.mpr c3
  have c3b1 : ((l0.length : Int) != (l1.length : Int)) = true := bne_iff_ne.mpr c3
  have c3b2 : (l0.length == l1.length) = false := by first | simpa using c3 | (simp at c3 ⊢; omega)
  obtain rfl := Option.some.inj H
  go_enter Try.func11, Try.ntmps11
  go_wp2
  repeat (go_quiet (fail); try go_wp2)
  go_ret
  exact ⟨by first | rfl | (simp; done) | (simp [*]; done), by repeat (first | exact Drawn0.refl _ | apply Drawn0.step)⟩
def impl_sign.f (a0 : Int) : Option (Int) := some (wrap64 (1 - (wrap64 (2 * (Go.bits .and .i64 a0 1)))))
theorem impl_sign.calls (a0 : Int) (r : Int) (w : World) (h : impl_sign.f a0 = some r) :
  Calls Try.prog 70 #[.int .i64 a0] w fun e w' => e = .returned (.int .i64 r) ∧ Drawn0 w w' := by
 have H : (some (wrap64 (1 - (wrap64 (2 * (Go.bits .and .i64 a0 1)))))) = some r := h
 clear h
 obtain rfl := Option.some.inj H
 go_enter Try.func70, Try.ntmps70
 go_wp2
 go_ret
 exact ⟨by first | rfl | (simp; done) | (simp [*]; done), by repeat (first | exact Drawn0.refl _ | apply Drawn0.step)⟩
mutual
def impl_Table_spectrum.l0 : Nat → List Int → Int → Int → Int → Int → Option (List Int)
 | 0, _, _, _, _, _ => none
 | k + 1, x3, x10, x11, x269000, x269001 => if x11 < x10 then ((impl_Table_size.f x269000 x269001).bind fun t273 => (impl_Table_spectrum.l1 k x3 x11 x10 x11 t273 0 x269000 x269001)) else (some x3)
def impl_Table_spectrum.l1 : Nat → List Int → Int → Int → Int → Int → Int → Int → Int → Option (List Int)
 | 0, _, _, _, _, _, _, _, _ => none
 | k + 1, x3, x4, x10, x11, x15, x16, x269000, x269001 => if x16 < x15 then (if 0 ≤ x4 then (if x4 < (x3.length : Int) then ((impl_Table_at.f x269000 x269001 x16).bind fun t275 => ((impl_ones.f (Go.bits .and .i64 x4 x16)).bind fun t276 => ((impl_sign.f (wrap64 (t275 + t276))).bind fun t277 => (impl_Table_spectrum.l1 k (x3.set (x4 : Int).toNat (wrap64 ((rd x3 x4) + t277))) x4 x10 x11 x15 (wrap64 (x16 + 1)) x269000 x269001)))) else (none)) else (none)) else (impl_Table_spectrum.l0 k x3 x10 (wrap64 (x11 + 1)) x269000 x269001)
end
def impl_Table_spectrum.f (k : Nat) (a0_0 : Int) (a0_1 : Int) : Option (List Int) := (impl_Table_size.f a0_0 a0_1).bind fun t269 => (if 0 ≤ t269 then (if (t269 : Int).toNat ≤ 35184372088832 then ((some (List.replicate (t269 : Int).toNat 0 : List Int)).bind fun y270 => (impl_Table_spectrum.l0 k y270 (y270.length : Int) 0 a0_0 a0_1)) else (none)) else (none))
def impl_Table_spectrum.T8 : Bool × List (List Nat × List Nat) := (true, [([], []), ([], []), ([0, 1], [0, 1]), ([2], [2]), ([], []), ([], []), ([4, 5], [4, 5]), ([], []), ([], []), ([7, 8], [7, 8]), ([9, 6], [9]), ([6, 10], [6, 10]), ([11, 10], [11]), ([3, 12], [3, 12]), ([0, 1, 0, 1, 2, 3, 4, 5, 6, 7, 8, 9, 10, 11, 12, 13], [0, 1]), ([14, 13, 12, 0, 1, 2, 3, 4, 5, 6, 7, 8, 9, 10, 11, 12, 13], [13, 14])])
def impl_Table_spectrum.B8 : List Nat := [0, 0, 3, 7, 0, 0, 48, 0, 0, 384, 1008, 2032, 4080, 8191, 16383, 32767]
theorem impl_Table_spectrum.tab8 : rtab .any (opsOf Try.f52 8) = impl_Table_spectrum.T8 := by kernel_rfl
theorem impl_Table_spectrum.bits8 : waitsOk impl_Table_spectrum.T8.2 impl_Table_spectrum.B8 = true := by kernel_rfl
theorem impl_Table_spectrum.calls (k : Nat) (a0_0 : Int) (a0_1 : Int) (r : List Int) (w : World) (h : impl_Table_spectrum.f k a0_0 a0_1 = some r) :
  Calls Try.prog 52 #[.agg #[.int .i64 a0_0, .int .i64 a0_1]] w fun e w' => ∃ v0_ : Value, e = .returned (v0_) ∧ Kd.R (Kd.int .i64) 3 w' w.heap.size (fun _ => True) v0_ r ∧ Below w.heap.size w w' := by
 have hu25 := Try.underlying25
 have HB := M.A_ (Below.refl w.heap.size w)
 unfold impl_Table_spectrum.f at h; have H := h
 clear h; obtain ⟨t269, A2, H⟩ := M.ob_ H; (try dsimp only at H)
 by_cases c3 : 0 ≤ t269
 ·rw [if_pos c3] at H
  have c3b0 := eq_true c3
  have c3b1 : decide (0 ≤ t269) = true := decide_eq_true c3
  clear c3
  by_cases c4 : (t269 : Int).toNat ≤ 35184372088832
  ·rw [if_pos c4] at H
   have c4b0 := eq_true c4
   have c4b1 : decide ((t269 : Int).toNat ≤ 35184372088832) = true := decide_eq_true c4
   clear c4
   obtain ⟨y270, hy270⟩ : ∃ y_ : List Int, y_ = (List.replicate (t269 : Int).toNat 0) := ⟨_, rfl⟩
   replace H : (impl_Table_spectrum.l0 k y270 (y270.length : Int) 0 a0_0 a0_1) = some r := by first | (rw [hy270]; with_reducible exact H) | (have H2_ := (Option.bind_some _ _).symm.trans H; rw [hy270]; with_reducible exact H2_) | (have H2_ := (Option.bind_some _ _).symm.trans H; with_reducible exact H2_) | with_reducible exact H | (rw [hy270]; exact H) | exact H
   have Ny270 := M.A_ hy270; clear hy270
   have H' := M.A_ H
   clear H
   go_enter Try.func52, Try.ntmps52
   go_wp2_with (first | ((with_reducible refine gate_dst (N := 1) rfl ?_); refine box_event ?hg (N := 1) ?hd (cs := #[.int .i64 a0_0, .int .i64 a0_1]) (t := 25) ?hr ?_; (case hd => rfl); (case hg => rfl); (case hr => first | (go_simp; done) | (go_simp; rfl)); intro gb268 hg w5 hbox hb; have n0_ := M.A_ (below_step (M.Lw HB) hb); have n1_ := M.A_ (hbox); have n2_ := M.A_ ((by rw [hg]; exact (below_size (M.Lw HB)) : w.heap.size ≤ gb268)); have n3_ := M.A_ ((by rw [hg]; exact (below_size (M.Lw HB)) : w.heap.size ≤ gb268)); clear HB; have HB := n0_; have BK268 := n1_; have GW268 := n2_; have GE268 := n3_; clear n0_ n1_ n2_ n3_; clear hb hbox hg; have hcz6_0 : w5.cell? ⟨gb268, 0, none⟩ = some (.int .i64 a0_0) := (blk_cell BK268.out 0).trans rfl; have hcz6_1 : w5.cell? ⟨gb268, 1, none⟩ = some (.int .i64 a0_1) := (blk_cell BK268.out 1).trans rfl; have hfz6_0 := blk_frozen BK268.out 0; have hfz6_1 := blk_frozen BK268.out 1) | ((with_reducible refine gate_callee (f := 51) rfl ?_); refine goesL_ (some 7) rfl rfl Try.func51 (by kernel_rfl) rfl #[.agg #[.int .i64 a0_0, .int .i64 a0_1]] rfl (by first | rfl | (simp only [M.mt, M.mc, M.mn, M.ld, M.lt]; rfl)) ?_; (with_reducible refine (impl_Table_size.calls a0_0 a0_1 t269 _ A2.out).mono ?_); rintro e w7 ⟨rfl, hb⟩; refine ⟨_, rfl, ?_⟩; have n0_ := M.A_ (blk_below (M.Lb BK268) hb); have n1_ := M.A_ (below_step (M.Lw HB) hb); clear BK268; clear HB; have BK268 := n0_; have HB := n1_; clear n0_ n1_; (try clear hb); (try clear hb2); (try clear hk); (try clear hi)) | ((with_reducible refine gate_dst (N := 8) rfl ?_); refine Kd.R_make (Kd.int .i64) _ 3 rfl (N := 8) rfl 26 _ _ rfl t269 rfl rfl Try.underlying26 (.int .i64 0) 8 info3 rfl (by decide) (by omega) 0 (ok := fun _ => True) (okp := fun _ => True) rfl (fun _ hk => hk) trivial (of_decide_eq_true (by first | (with_reducible assumption) | assumption)) (Nat.le_trans (Nat.mul_le_mul_right _ (of_decide_eq_true (by first | (with_reducible assumption) | assumption) : t269.toNat ≤ 35184372088832)) (by omega)) (Below.refl _ _) (Nat.le_refl _) ?_; intro v271 w8 ho9 hb hg_ hnew_; clear hg_ hnew_; (first | rw [← Ny270.out] at ho9 | (simp only [Int.reduceToNat] at ho9; rw [← Ny270.out] at ho9)); have n0_ := M.A_ (Kd.R_lower ho9 (below_size (M.Lw HB))); have n1_ := M.A_ (blk_below (M.Lb BK268) hb); have n2_ := M.A_ (below_step (M.Lw HB) hb); clear BK268; clear HB; have HO272 := n0_; have BK268 := n1_; have HB := n2_; clear n0_ n1_ n2_; clear hb ho9; obtain ⟨Ao10, co10, eo10⟩ := Kd.R_slice HO272.out; subst eo10))
   go_loopg [11] k (fun kq v11 w' => ∃ (x3_1 : List Int) (x11_1 : Int), v11 = .int .i64 x11_1 ∧ Aside0 (impl_Table_spectrum.l0 kq x3_1 (y270.length : Int) x11_1 a0_0 a0_1 = some r) ∧ Aside0 (kq ≤ k) ∧ Aside0 (Kd.R (Kd.int .i64) 3 w' w.heap.size (fun _ => True) (.slice Ao10 y270.length co10) x3_1) ∧ Aside0 (w'.heap[gb268]? = some (.cells #[.int .i64 a0_0, .int .i64 a0_1] 25 (0, 0))) ∧ Aside0 (Below w.heap.size w w'))
   case atStart => exact ⟨(y270), (0), (by first | rfl | (simp; done) | (simp [*]; done)), H', ⟨Nat.le_refl _⟩, ⟨M.Lr HO272⟩, ⟨M.Lb BK268⟩, ⟨by repeat (first | (with_reducible first | exact HB.out | apply below_alloc | apply pw_below_drewN | apply below_drew1 | refine below_set ?_ GB21.out | refine below_set ?_ GE268.out) | exact HB.out)⟩⟩
   case round =>
    clear H'; (try clear p2); (try clear c3); (try clear c3b0); (try clear c3b1); (try clear c4); (try clear c4b0); (try clear c4b1); (try clear c5); (try clear hcz6_0); (try clear hcz6_1); (try clear hfz6_0); (try clear hfz6_1); obtain ⟨x3_1, x11_1, rfl, HA, HK1, HO_3, BK268, HB⟩ := hrel
    have hl3_1 := (Kd.R_reads' HO_3.out).1
    rw [hl3_1] at HO_3
    (try simp only [hl3_1])
    (try simp only [hl3_1] at BK268)
    cases gk with
    | zero => exact absurd HA.out (by simp [impl_Table_spectrum.l0])
    | succ k1 =>
     have H := HA.out
     clear HA
     simp only [impl_Table_spectrum.l0] at H
     by_cases c11 : x11_1 < (y270.length : Int)
     ·rw [if_pos c11] at H
      have c11b0 : decide (x11_1 < (y270.length : Int)) = true := decide_eq_true c11
      (try have c11b9_0 : decide (x11_1 < (x3_1.length : Int)) = true := by rw [← hl3_1]; exact decide_eq_true c11)
      clear c11; replace H := Option.bind_eq_some_iff.mp H; obtain ⟨t273, A120, H⟩ := H
      replace H : (impl_Table_spectrum.l1 k1 x3_1 x11_1 (y270.length : Int) x11_1 t273 0 a0_0 a0_1) = some r := H
      have A12 := M.A_ A120; clear A120
      have H' := M.A_ H
      clear H
      have hcz13_0 : wr.cell? ⟨gb268, 0, none⟩ = some (.int .i64 a0_0) := (blk_cell BK268.out 0).trans rfl
      have hcz13_1 : wr.cell? ⟨gb268, 1, none⟩ = some (.int .i64 a0_1) := (blk_cell BK268.out 1).trans rfl
      have hfz13_0 := blk_frozen BK268.out 0
      have hfz13_1 := blk_frozen BK268.out 1
      go_wp2_with (first | ((with_reducible refine gate_callee (f := 51) rfl ?_); refine goesL_ (some 15) rfl rfl Try.func51 (by kernel_rfl) rfl #[.agg #[.int .i64 a0_0, .int .i64 a0_1]] rfl (by first | rfl | (simp only [M.mt, M.mc, M.mn, M.ld, M.lt]; rfl)) ?_; (with_reducible refine (impl_Table_size.calls a0_0 a0_1 t273 _ A12.out).mono ?_); rintro e w14 ⟨rfl, hb⟩; refine ⟨_, rfl, ?_⟩; have n0_ := M.A_ (Kd.R_below (M.Lr HO_3) hb); have n1_ := M.A_ (blk_below (M.Lb BK268) hb); have n2_ := M.A_ (below_step (M.Lw HB) hb); clear HO_3; clear BK268; clear HB; have HO_3 := n0_; have BK268 := n1_; have HB := n2_; clear n0_ n1_ n2_; (try clear hb); (try clear hb2); (try clear hk); (try clear hi)))
      go_loopg [16] k1 (fun kq v16 w' => ∃ (x3_2 : List Int) (x16_2 : Int), v16 = .int .i64 x16_2 ∧ Aside0 (impl_Table_spectrum.l1 kq x3_2 x11_1 (y270.length : Int) x11_1 t273 x16_2 a0_0 a0_1 = some r) ∧ Aside0 (kq ≤ k1) ∧ Aside0 (Kd.R (Kd.int .i64) 3 w' w.heap.size (fun _ => True) (.slice Ao10 x3_1.length co10) x3_2) ∧ Aside0 (w'.heap[gb268]? = some (.cells #[.int .i64 a0_0, .int .i64 a0_1] 25 (0, 0))) ∧ Aside0 (Below w.heap.size w w'))
      case atStart => exact ⟨(x3_1), (0), (by first | rfl | (simp; done) | (simp [*]; done)), H', ⟨Nat.le_refl _⟩, ⟨by (try simp only [hl3_1]); (with_reducible repeat (first | apply Kd.R_alloc | apply Kd.R_drewN | apply Kd.R_drew)); exact HO_3.out⟩, ⟨by (try simp only [hl3_1]); (with_reducible repeat (first | refine blk_drewN ?_ _ | refine blk_drew ?_ | refine blk_alloc ?_ _)); exact BK268.out⟩, ⟨by repeat (first | (with_reducible first | exact HB.out | apply below_alloc | apply pw_below_drewN | apply below_drew1 | refine below_set ?_ GB21.out | refine below_set ?_ GE268.out) | exact HB.out)⟩⟩
      case round =>
       clear H'; (try clear c1); (try clear p2); (try clear c3); (try clear c3b0); (try clear c3b1); (try clear c4); (try clear c4b0); (try clear c4b1); (try clear c5); (try clear c11); (try clear c11b0); (try clear hcz13_0); (try clear hcz13_1); (try clear hcz6_0); (try clear hcz6_1); (try clear hfz13_0); (try clear hfz13_1); (try clear hfz6_0); (try clear hfz6_1); (try clear p2); obtain ⟨x3_2, x16_2, rfl, HA, HK2, HO_3, BK268, HB⟩ := hrel
       have hl3_2 := (Kd.R_reads' HO_3.out).1
       rw [hl3_2] at HO_3
       (try simp only [hl3_2])
       (try simp only [hl3_2] at BK268)
       cases gk with
       | zero => exact absurd HA.out (by simp [impl_Table_spectrum.l1])
       | succ k2 =>
        have H := HA.out
        clear HA
        simp only [impl_Table_spectrum.l1] at H
        by_cases c15 : x16_2 < t273
        ·rw [if_pos c15] at H
         have c15b0 : decide (x16_2 < t273) = true := decide_eq_true c15
         clear c15
         by_cases c16 : 0 ≤ x11_1
         ·rw [if_pos c16] at H
          have c16b0 : decide (0 ≤ x11_1) = true := decide_eq_true c16
          clear c16
          by_cases c17 : x11_1 < (x3_2.length : Int)
          ·rw [if_pos c17] at H
           have c17b0 : decide (x11_1 < (x3_2.length : Int)) = true := decide_eq_true c17
           clear c17; obtain ⟨t275, A18, H⟩ := M.ob_ H; (try dsimp only at H); obtain ⟨t276, A19, H⟩ := M.ob_ H; (try dsimp only at H); obtain ⟨t277, A20, H⟩ := M.ob_ H; (try dsimp only at H)
           obtain ⟨y278, hy278⟩ : ∃ y_ : List Int, y_ = (x3_2.set (x11_1 : Int).toNat (wrap64 ((rd x3_2 x11_1) + t277))) := ⟨_, rfl⟩
           replace H : (impl_Table_spectrum.l1 k2 y278 x11_1 (y270.length : Int) x11_1 t273 (wrap64 (x16_2 + 1)) a0_0 a0_1) = some r := by first | (rw [hy278]; with_reducible exact H) | (have H2_ := (Option.bind_some _ _).symm.trans H; rw [hy278]; with_reducible exact H2_) | (have H2_ := (Option.bind_some _ _).symm.trans H; with_reducible exact H2_) | with_reducible exact H | (rw [hy278]; exact H) | exact H
           have Ny278 := M.A_ hy278; clear hy278
           have H' := M.A_ H
           clear H
           try go_wp2
           have n0_ := M.A_ (Kd.R_drew HO_3.out)
           have n1_ := M.A_ (blk_drew BK268.out)
           have n2_ := M.A_ (below_drew1 HB.out)
           clear HO_3; clear BK268; clear HB; have HO_3 := n0_; have BK268 := n1_; have HB := n2_; clear n0_ n1_ n2_
           have p274 : 0 ≤ (x11_1 : Int) := of_decide_eq_true (by first | (with_reducible assumption) | assumption)
           have q274 : x11_1 < (x3_2.length : Int) := of_decide_eq_true (by first | (with_reducible assumption) | assumption)
           obtain ⟨ad274, e274, hx274_0⟩ := Kd.at_int (Kd.R_reads' HO_3.out).2.2 x11_1 p274 q274
           cases e274
           replace p274 := eq_true p274
           replace q274 := eq_true q274
           refine start_ (n := 16) (S := fun w' => w'.cell? ⟨gb268, 0, none⟩ = some (.int .i64 a0_0) ∧ w'.cell? ⟨gb268, 1, none⟩ = some (.int .i64 a0_1) ∧ w'.cell? (ad274.add (x11_1).toNat) = some (.int .i64 (rd x3_2 x11_1))) (ds := [15]) #[false, false, false, false, false, false, false, false, false, false, false, false, false, false, false, false] (by kernel_rfl) rfl rfl ⟨(blk_cell BK268.out 0).trans rfl, (blk_cell BK268.out 1).trans rfl, hx274_0⟩ (fun hHeld => ?_); refine with_tabW impl_Table_spectrum.tab8 impl_Table_spectrum.bits8 (fun HT_ HW_ => ?_)
           generalize wr.drew = w22 at HO_3 BK268 HB hx274_0 hHeld ⊢
           refine pure_ (i := 0) (N := some 19) (v := ?_) (a' := ?_) #[true, false, false, false, false, false, false, false, false, false, false, false, false, false, false, false] rfl rfl (any_of HT_.out (by kernel_rfl)) (fun _ _ _ h => h) (Or.inl ⟨by rfl, ?_⟩) ?_ ?_; rotate_left
           ·intro w'; go_simp; with_reducible rfl
           rotate_left
           ·simp only [Act.put, List.setIfInBounds_toArray, List.set_cons_zero, List.set_cons_succ, i64_w, i32_w]; rfl
           refine pure_ (i := 1) (N := some 20) (v := ?_) (a' := ?_) #[true, true, false, false, false, false, false, false, false, false, false, false, false, false, false, false] rfl rfl (any_of HT_.out (by kernel_rfl)) (fun _ _ _ h => h) (Or.inl ⟨by rfl, ?_⟩) ?_ ?_; rotate_left
           ·intro w'; go_simp; with_reducible rfl
           rotate_left
           ·simp only [Act.put, List.setIfInBounds_toArray, List.set_cons_zero, List.set_cons_succ, i64_w, i32_w]; rfl
           refine pure_ (i := 2) (N := some 21) (v := ?_) (a' := ?_) #[true, true, true, false, false, false, false, false, false, false, false, false, false, false, false, false] rfl rfl (any_of HT_.out (by kernel_rfl)) (fun _ _ _ h => h) (Or.inl ⟨by rfl, ?_⟩) ?_ ?_; rotate_left
           ·intro w'; go_simp; with_reducible rfl
           rotate_left
           ·simp only [Act.put, List.setIfInBounds_toArray, List.set_cons_zero, List.set_cons_succ, i64_w, i32_w]; rfl
           refine pure_ (i := 5) (N := some 24) (v := ?_) (a' := ?_) #[true, true, true, false, false, true, false, false, false, false, false, false, false, false, false, false] rfl rfl (any_of HT_.out (by kernel_rfl)) (fun _ _ _ h => h) (Or.inl ⟨by rfl, ?_⟩) ?_ ?_; rotate_left
           ·intro w'; go_simp; with_reducible rfl
           rotate_left
           ·simp only [Act.put, List.setIfInBounds_toArray, List.set_cons_zero, List.set_cons_succ, i64_w, i32_w]; rfl
           refine pure_ (i := 7) (N := some 26) (v := ?_) (a' := ?_) #[true, true, true, false, false, true, false, true, false, false, false, false, false, false, false, false] rfl rfl (any_of HT_.out (by kernel_rfl)) (fun _ _ _ h => h) (Or.inl ⟨by rfl, ?_⟩) ?_ ?_; rotate_left
           ·intro w'; go_simp; with_reducible rfl
           rotate_left
           ·simp only [Act.put, List.setIfInBounds_toArray, List.set_cons_zero, List.set_cons_succ, i64_w, i32_w]; rfl
           refine pure_ (i := 8) (N := some 27) (v := ?_) (a' := ?_) #[true, true, true, false, false, true, false, true, true, false, false, false, false, false, false, false] rfl rfl (any_of HT_.out (by kernel_rfl)) (fun _ _ _ h => h) (Or.inl ⟨by rfl, ?_⟩) ?_ ?_; rotate_left
           ·intro w'; go_simp; with_reducible rfl
           rotate_left
           ·simp only [Act.put, List.setIfInBounds_toArray, List.set_cons_zero, List.set_cons_succ, i64_w, i32_w]; rfl
           refine pure_ (i := 9) (N := some 28) (v := ?_) (a' := ?_) #[true, true, true, false, false, true, false, true, true, true, false, false, false, false, false, false] rfl rfl (any_of HT_.out (by kernel_rfl)) (fun _ _ _ h => h) (Or.inl ⟨by rfl, ?_⟩) ?_ ?_; rotate_left
           ·intro w'; go_simp; with_reducible rfl
           rotate_left
           ·simp only [Act.put, List.setIfInBounds_toArray, List.set_cons_zero, List.set_cons_succ, i64_w, i32_w]; rfl
           refine take_ (i := 3) (N := some 22) (v := ?_) (a' := ?_) #[true, true, true, true, false, true, false, true, true, true, false, false, false, false, false, false] rfl rfl (take_ofW HT_.out HW_.out (by kernel_rfl)) (fun _ _ _ h => h) (Or.inl ⟨by rfl, ?_⟩) hHeld ?_ ?_
           rotate_left
           ·rintro w' ⟨s0, s1, s2⟩
            go_simp; with_reducible rfl
           rotate_left
           ·simp only [Act.put, List.setIfInBounds_toArray, List.set_cons_zero, List.set_cons_succ, i64_w, i32_w]; rfl
           refine take_ (i := 4) (N := some 23) (v := ?_) (a' := ?_) #[true, true, true, true, true, true, false, true, true, true, false, false, false, false, false, false] rfl rfl (take_ofW HT_.out HW_.out (by kernel_rfl)) (fun _ _ _ h => h) (Or.inl ⟨by rfl, ?_⟩) hHeld ?_ ?_
           rotate_left
           ·rintro w' ⟨s0, s1, s2⟩
            go_simp; with_reducible rfl
           rotate_left
           ·simp only [Act.put, List.setIfInBounds_toArray, List.set_cons_zero, List.set_cons_succ, i64_w, i32_w]; rfl
           refine one_ (i := 6) (N := some 25) #[true, true, true, true, true, true, true, true, true, true, false, false, false, false, false, false] rfl rfl (one_of HT_.out (by kernel_rfl)) (by decide) (fun K hK => ?_)
           refine goes_ Try.func41 (by kernel_rfl) rfl #[.agg #[.int .i64 a0_0, .int .i64 a0_1], .int .i64 x16_2] (by rfl) rfl rfl (by first | rfl | (simp only [M.mt, M.mc, M.mn, M.ld, M.lt]; rfl)) ?_
           with_reducible refine (impl_Table_at.calls a0_0 a0_1 x16_2 t275 _ A18.out).mono ?_
           rintro e w23 ⟨rfl, hb⟩
           have HS2_ := (hb.cell (World.block_lt_of_cell? _ _ (hHeld.2.2))).trans (hHeld.2.2)
           refine ⟨_, rfl, ?_⟩
           have n0_ := M.A_ (Kd.R_below (M.Lr HO_3) hb)
           have n1_ := M.A_ (blk_below (M.Lb BK268) hb)
           have n2_ := M.A_ (below_step (M.Lw HB) hb)
           clear HO_3; clear BK268; clear HB; have HO_3 := n0_; have BK268 := n1_; have HB := n2_; clear n0_ n1_ n2_; (try clear hb); (try clear hb2); (try clear hk); (try clear hi)
           refine hK.out _ _ ⟨(blk_cell BK268.out 0).trans rfl, (blk_cell BK268.out 1).trans rfl, HS2_⟩ (fun hHeld => ?_)
           clear hK K
           refine norm_ (a' := ?_) ?_ ?_
           rotate_left
           ·show Act.put _ (some 25) _ = _
            simp only [Act.put, List.setIfInBounds_toArray, List.set_cons_zero, List.set_cons_succ, i64_w, i32_w]; rfl
           refine one_ (i := 10) (N := some 29) #[true, true, true, true, true, true, true, true, true, true, true, false, false, false, false, false] rfl rfl (one_of HT_.out (by kernel_rfl)) (by decide) (fun K hK => ?_)
           refine goes_ Try.func47 (by kernel_rfl) rfl #[.int .i64 (Go.bits .and .i64 x11_1 x16_2)] (by rfl) rfl rfl (by first | rfl | (simp only [M.mt, M.mc, M.mn, M.ld, M.lt]; rfl)) ?_
           with_reducible refine (impl_ones.calls (Go.bits .and .i64 x11_1 x16_2) t276 _ A19.out).mono ?_
           rintro e w' ⟨rfl, ⟨nd, rfl⟩⟩
           refine ⟨_, rfl, ?_⟩
           refine hK.out _ _ ⟨(blk_cell BK268.out 0).trans rfl, (blk_cell BK268.out 1).trans rfl, hHeld.2.2⟩ (fun hHeld => ?_)
           clear hK K
           refine norm_ (a' := ?_) ?_ ?_
           rotate_left
           ·show Act.put _ (some 29) _ = _
            simp only [Act.put, List.setIfInBounds_toArray, List.set_cons_zero, List.set_cons_succ, i64_w, i32_w]; rfl
           refine pure_ (i := 11) (N := some 30) (v := ?_) (a' := ?_) #[true, true, true, true, true, true, true, true, true, true, true, true, false, false, false, false] rfl rfl (any_of HT_.out (by kernel_rfl)) (fun _ _ _ h => h) (Or.inl ⟨by rfl, ?_⟩) ?_ ?_; rotate_left
           ·intro w'; go_simp; with_reducible rfl
           rotate_left
           ·simp only [Act.put, List.setIfInBounds_toArray, List.set_cons_zero, List.set_cons_succ, i64_w, i32_w]; rfl
           refine one_ (i := 12) (N := some 31) #[true, true, true, true, true, true, true, true, true, true, true, true, true, false, false, false] rfl rfl (one_of HT_.out (by kernel_rfl)) (by decide) (fun K hK => ?_)
           refine goes_ Try.func70 (by kernel_rfl) rfl #[.int .i64 (wrap64 (t275 + t276))] (by rfl) rfl rfl (by first | rfl | (simp only [M.mt, M.mc, M.mn, M.ld, M.lt]; rfl)) ?_
           with_reducible refine (impl_sign.calls (wrap64 (t275 + t276)) t277 _ A20.out).mono ?_
           rintro e w' ⟨rfl, ⟨nd, rfl⟩⟩
           refine ⟨_, rfl, ?_⟩
           have p21 : 0 ≤ (x11_1 : Int) := of_decide_eq_true (by first | (with_reducible assumption) | assumption)
           have q21 : (x11_1 : Int) < ((x3_2.length : Int) : Int) := of_decide_eq_true (by first | (with_reducible assumption) | assumption)
           obtain ⟨go21, co21, eo21, gb21, gl21, cl21, HG21⟩ := Kd.R_form HO_3.out (by omega)
           (first | cases eo21 | (injection eo21 with ea_ en_ ec_; (first | subst ea_ | (injection ea_ with ea_; subst ea_)); subst ec_; clear en_))
           have GB21 := M.A_ gb21; have GG21 := M.A_ HG21; clear gb21 gl21 HG21
           (first | simp only [add_plain] at hx274_0 | skip)
           obtain ⟨hx21_0, hf21_0⟩ := Kd.R_celln 0 HO_3.out (x11_1 : Int) p21 q21
           replace p21 := eq_true p21
           replace q21 := eq_true q21
           have HP24 := Kd.R_putn HO_3.out (x11_1 : Int) (wrap64 ((rd x3_2 x11_1) + t277))
           rw [← Ny278.out] at HP24
           have HQ24 := M.A_ HP24; clear HP24
           refine hK.out _ _ ⟨(blk_cell BK268.out 0).trans rfl, (blk_cell BK268.out 1).trans rfl, hHeld.2.2⟩ (fun hHeld => ?_)
           clear hK K
           refine norm_ (a' := ?_) ?_ ?_
           rotate_left
           ·show Act.put _ (some 31) _ = _
            simp only [Act.put, List.setIfInBounds_toArray, List.set_cons_zero, List.set_cons_succ, i64_w, i32_w]; rfl
           refine pure_ (i := 13) (N := some 32) (v := ?_) (a' := ?_) #[true, true, true, true, true, true, true, true, true, true, true, true, true, true, false, false] rfl rfl (any_of HT_.out (by kernel_rfl)) (fun _ _ _ h => h) (Or.inl ⟨by rfl, ?_⟩) ?_ ?_; rotate_left
           ·intro w'; go_simp; with_reducible rfl
           rotate_left
           ·simp only [Act.put, List.setIfInBounds_toArray, List.set_cons_zero, List.set_cons_succ, i64_w, i32_w]; rfl
           refine pure_ (i := 14) (N := some 33) (v := ?_) (a' := ?_) #[true, true, true, true, true, true, true, true, true, true, true, true, true, true, true, false] rfl rfl (any_of HT_.out (by kernel_rfl)) (fun _ _ _ h => h) (Or.inl ⟨by rfl, ?_⟩) ?_ ?_; rotate_left
           ·intro w'; go_simp; with_reducible rfl
           rotate_left
           ·simp only [Act.put, List.setIfInBounds_toArray, List.set_cons_zero, List.set_cons_succ, i64_w, i32_w]; rfl
           refine last_ (i := 15) (N := none) #[true, true, true, true, true, true, true, true, true, true, true, true, true, true, true, true] rfl rfl (one_of HT_.out (by kernel_rfl)) (by decide) (fun K hK => ?_)
           refine skip_ (w1 := ?_) (by rfl) rfl ?_ ?_
           rotate_left
           ·go_simp; rfl
           refine hK.out _ _ ?_
           clear hK K
           refine done_ (done_of HT_.out (by kernel_rfl)) ?_
           try go_wp2
           (try simp only [← hl3_2])
           go_roundg k2
           case measure => have := HK1.out; have := HK2.out; omega
           case rel => exact ⟨(y278), (wrap64 (x16_2 + 1)), (by first | rfl | (simp; done) | (simp [*]; done)), H', ⟨by have := HK1.out; have := HK2.out; omega⟩, ⟨by (try simp only [hl3_1]); (try simp only [hl3_2]); (with_reducible repeat (first | apply Kd.R_alloc | apply Kd.R_drewN | apply Kd.R_drew)); exact HQ24.out⟩, ⟨by (try simp only [hl3_1]); (try simp only [hl3_2]); (with_reducible repeat (first | refine blk_drewN ?_ _ | refine blk_drew ?_ | refine blk_alloc ?_ _)); refine blk_far ?_ (by have h_ := Kd.R_ne HO_3.out BK268.out (by decide); intro e_; exact h_ (by rw [e_]; rfl)) _; (with_reducible repeat (first | refine blk_drewN ?_ _ | refine blk_drew ?_ | refine blk_alloc ?_ _)); exact BK268.out⟩, ⟨by repeat (first | (with_reducible first | exact HB.out | apply below_alloc | apply pw_below_drewN | apply below_drew1 | refine below_set ?_ GB21.out | refine below_set ?_ GE268.out) | exact HB.out)⟩⟩
          ·rw [if_neg c17] at H
           exact absurd H (by simp)
         ·rw [if_neg c16] at H
          exact absurd H (by simp)
        ·rw [if_neg c15] at H
         have c15b0 : decide (x16_2 < t273) = false := decide_eq_false c15
         clear c15
         have H' := M.A_ H
         clear H
         go_wp2
         (try simp only [← hl3_1, ← hl3_2])
         go_roundg k2
         case measure => have := HK1.out; have := HK2.out; omega
         case rel => exact ⟨(x3_2), (wrap64 (x11_1 + 1)), (by first | rfl | (simp; done) | (simp [*]; done)), H', ⟨by have := HK1.out; have := HK2.out; omega⟩, ⟨by (try simp only [hl3_1]); (try simp only [hl3_2]); (with_reducible repeat (first | apply Kd.R_alloc | apply Kd.R_drewN | apply Kd.R_drew)); exact HO_3.out⟩, ⟨by (try simp only [hl3_1]); (try simp only [hl3_2]); (with_reducible repeat (first | refine blk_drewN ?_ _ | refine blk_drew ?_ | refine blk_alloc ?_ _)); exact BK268.out⟩, ⟨by repeat (first | (with_reducible first | exact HB.out | apply below_alloc | apply pw_below_drewN | apply below_drew1 | refine below_set ?_ GB21.out | refine below_set ?_ GE268.out) | exact HB.out)⟩⟩
     ·rw [if_neg c11] at H
      have c11b0 : decide (x11_1 < (y270.length : Int)) = false := decide_eq_false c11
      (try have c11b9_0 : decide (x11_1 < (x3_1.length : Int)) = false := by rw [← hl3_1]; exact decide_eq_false c11)
      (try have c11b9_1 : decide (x11_1 < (x3_2.length : Int)) = false := by rw [← hl3_2]; exact decide_eq_false c11)
      clear c11
      obtain rfl := Option.some.inj H
      go_wp2
      go_ret
      exact ⟨_, by first | rfl | (simp [*, errW_none, errW_some] <;> rfl), by (with_reducible repeat (first | apply Kd.R_alloc | apply Kd.R_drewN | apply Kd.R_drew)); exact HO_3.out, by repeat (first | (with_reducible first | exact HB.out | apply below_alloc | apply pw_below_drewN | apply below_drew1 | refine below_set ?_ GB21.out | refine below_set ?_ GE268.out) | exact HB.out)⟩
  ·rw [if_neg c4] at H
   exact absurd H (by simp)
 ·rw [if_neg c3] at H
  exact absurd H (by simp)
def impl_size1.f (a0 : Int) : Option (Int) := some (mx a0 (wrap64 (-a0)))
theorem impl_size1.calls (a0 : Int) (r : Int) (w : World) (h : impl_size1.f a0 = some r) :
  Calls Try.prog 53 #[.int .i64 a0] w fun e w' => e = .returned (.int .i64 r) ∧ Below w.heap.size w w' := by
 have HB := M.A_ (Below.refl w.heap.size w)
 have H : (some (mx a0 (wrap64 (-a0)))) = some r := h
 clear h
 obtain ⟨ji2, hji2⟩ : ∃ j_ : Int, (mx a0 (wrap64 (-a0))) = j_ := ⟨_, rfl⟩
 replace H : (some ji2) = some r := by first | (rw [hji2] at H; exact H) | (simp only [hji2] at H ⊢; exact H)
 have hji2_ : (if a0 < (wrap64 (-a0)) then (wrap64 (-a0)) else a0) = ji2 := hji2
 obtain rfl := Option.some.inj H
 go_enter Try.func53, Try.ntmps53
 go_wp2
 go_ret
 exact ⟨by first | rfl | (simp [errW_none, errW_some] <;> rfl) | (simp only [← hji2]; first | rfl | (simp [errW_none, errW_some] <;> rfl)) | (simp [*, errW_none, errW_some] <;> rfl), M.Lw HB⟩
def impl_SpectrumProfile.l0 : Nat → List Int → List Int → Int → Int → Option (List Int)
 | 0, _, _, _, _ => none
 | k + 1, x3, x14, x15, x16 => if x16 < x15 then (if 0 ≤ x16 then (if x16 < (x14.length : Int) then ((impl_size1.f (rd x14 x16)).bind fun t289 => (if 0 ≤ t289 then (if t289 < (x3.length : Int) then (impl_SpectrumProfile.l0 k (x3.set (t289 : Int).toNat (wrap64 ((rd x3 t289) + 1))) x14 x15 (wrap64 (x16 + 1))) else (none)) else (none))) else (none)) else (none)) else (some x3)
def impl_SpectrumProfile.f (k : Nat) (a0_0 : Int) (a0_1 : Int) : Option (List Int) := (impl_IsTable.f a0_0 a0_1).bind fun t280 => (if t280 = true then ((impl_Table_size.f a0_0 a0_1).bind fun t281 => (if 0 ≤ (wrap64 (t281 + 1)) then (if (wrap64 (t281 + 1) : Int).toNat ≤ 35184372088832 then ((impl_Table_spectrum.f k a0_0 a0_1).bind fun t285 => (impl_SpectrumProfile.l0 k (List.replicate (wrap64 (t281 + 1) : Int).toNat 0) t285 (t285.length : Int) 0)) else (none)) else (none))) else (some ([] : List Int)))
theorem impl_SpectrumProfile.calls (k : Nat) (a0_0 : Int) (a0_1 : Int) (r : List Int) (w : World) (h : impl_SpectrumProfile.f k a0_0 a0_1 = some r) :
  Calls Try.prog 12 #[.agg #[.int .i64 a0_0, .int .i64 a0_1]] w fun e w' => ∃ v0_ : Value, e = .returned (v0_) ∧ Kd.R (Kd.int .i64) 3 w' w.heap.size (fun _ => True) v0_ r ∧ Below w.heap.size w w' := by
 have hu25 := Try.underlying25
 have HB := M.A_ (Below.refl w.heap.size w)
 unfold impl_SpectrumProfile.f at h; have H := h
 clear h; obtain ⟨t280, A2, H⟩ := M.ob_ H; (try dsimp only at H)
 by_cases c3 : t280 = true
 ·subst c3
  rw [if_pos rfl] at H; (try dsimp only at H); obtain ⟨t281, A4, H⟩ := M.ob_ H; (try dsimp only at H)
  obtain ⟨ji5, hji5⟩ : ∃ j_ : Int, (wrap64 (t281 + 1)) = j_ := ⟨_, rfl⟩
  replace H : (if 0 ≤ (ji5) then (if (ji5 : Int).toNat ≤ 35184372088832 then ((impl_Table_spectrum.f k a0_0 a0_1).bind fun t285 => (impl_SpectrumProfile.l0 k (List.replicate (ji5 : Int).toNat 0) t285 (t285.length : Int) 0)) else (none)) else (none)) = some r := by first | (rw [hji5] at H; exact H) | (simp only [hji5] at H ⊢; exact H)
  (try rw [hji5] at A2)
  (try rw [hji5] at A4)
  have hji5w : (IntKind.i64.wrap (t281 + 1)) = ji5 := (i64_w _).trans hji5
  by_cases c6 : 0 ≤ (ji5)
  ·rw [if_pos c6] at H
   have c6b0 := eq_true c6
   have c6b1 : decide (0 ≤ (ji5)) = true := decide_eq_true c6
   clear c6
   by_cases c7 : (ji5 : Int).toNat ≤ 35184372088832
   ·rw [if_pos c7] at H
    have c7b0 := eq_true c7
    have c7b1 : decide ((ji5 : Int).toNat ≤ 35184372088832) = true := decide_eq_true c7
    clear c7
    obtain ⟨y282, hy282⟩ : ∃ y_ : List Int, y_ = (List.replicate (ji5 : Int).toNat 0) := ⟨_, rfl⟩
    replace H : ((impl_Table_spectrum.f k a0_0 a0_1).bind fun t285 => (impl_SpectrumProfile.l0 k y282 t285 (t285.length : Int) 0)) = some r := by first | (rw [hy282]; with_reducible exact H) | (have H2_ := (Option.bind_some _ _).symm.trans H; rw [hy282]; with_reducible exact H2_) | (have H2_ := (Option.bind_some _ _).symm.trans H; with_reducible exact H2_) | with_reducible exact H | (rw [hy282]; exact H) | exact H
    have Ny282 := M.A_ hy282; clear hy282; replace H := Option.bind_eq_some_iff.mp H; obtain ⟨t285, A80, H⟩ := H
    replace H : (impl_SpectrumProfile.l0 k y282 t285 (t285.length : Int) 0) = some r := H
    have A8 := M.A_ A80; clear A80
    have H' := M.A_ H
    clear H
    go_enter Try.func12, Try.ntmps12
    go_wp2_with (first | ((with_reducible refine gate_dst (N := 1) rfl ?_); refine box_event ?hg (N := 1) ?hd (cs := #[.int .i64 a0_0, .int .i64 a0_1]) (t := 25) ?hr ?_; (case hd => rfl); (case hg => rfl); (case hr => first | (go_simp; done) | (go_simp; rfl)); intro gb279 hg w9 hbox hb; have n0_ := M.A_ (below_step (M.Lw HB) hb); have n1_ := M.A_ (hbox); have n2_ := M.A_ ((by rw [hg]; exact (below_size (M.Lw HB)) : w.heap.size ≤ gb279)); have n3_ := M.A_ ((by rw [hg]; exact (below_size (M.Lw HB)) : w.heap.size ≤ gb279)); clear HB; have HB := n0_; have BK279 := n1_; have GW279 := n2_; have GE279 := n3_; clear n0_ n1_ n2_ n3_; clear hb hbox hg; have hcz10_0 : w9.cell? ⟨gb279, 0, none⟩ = some (.int .i64 a0_0) := (blk_cell BK279.out 0).trans rfl; have hcz10_1 : w9.cell? ⟨gb279, 1, none⟩ = some (.int .i64 a0_1) := (blk_cell BK279.out 1).trans rfl; have hfz10_0 := blk_frozen BK279.out 0; have hfz10_1 := blk_frozen BK279.out 1) | ((with_reducible refine gate_callee (f := 46) rfl ?_); refine goesL_ (some 7) rfl rfl Try.func46 (by kernel_rfl) rfl #[.agg #[.int .i64 a0_0, .int .i64 a0_1]] rfl (by first | rfl | (simp only [M.mt, M.mc, M.mn, M.ld, M.lt]; rfl)) ?_; (with_reducible refine (impl_IsTable.calls a0_0 a0_1 true _ A2.out).mono ?_); rintro e w11 ⟨rfl, hb⟩; refine ⟨_, rfl, ?_⟩; have n0_ := M.A_ (blk_below (M.Lb BK279) hb); have n1_ := M.A_ (below_step (M.Lw HB) hb); clear BK279; clear HB; have BK279 := n0_; have HB := n1_; clear n0_ n1_; (try clear hb); (try clear hb2); (try clear hk); (try clear hi); have hcz12_0 : w11.cell? ⟨gb279, 0, none⟩ = some (.int .i64 a0_0) := (blk_cell BK279.out 0).trans rfl; have hcz12_1 : w11.cell? ⟨gb279, 1, none⟩ = some (.int .i64 a0_1) := (blk_cell BK279.out 1).trans rfl; have hfz12_0 := blk_frozen BK279.out 0; have hfz12_1 := blk_frozen BK279.out 1) | ((with_reducible refine gate_callee (f := 51) rfl ?_); refine goesL_ (some 10) rfl rfl Try.func51 (by kernel_rfl) rfl #[.agg #[.int .i64 a0_0, .int .i64 a0_1]] rfl (by first | rfl | (simp only [M.mt, M.mc, M.mn, M.ld, M.lt]; rfl)) ?_; (with_reducible refine (impl_Table_size.calls a0_0 a0_1 t281 _ A4.out).mono ?_); rintro e w13 ⟨rfl, hb⟩; refine ⟨_, rfl, ?_⟩; have n0_ := M.A_ (blk_below (M.Lb BK279) hb); have n1_ := M.A_ (below_step (M.Lw HB) hb); clear BK279; clear HB; have BK279 := n0_; have HB := n1_; clear n0_ n1_; (try clear hb); (try clear hb2); (try clear hk); (try clear hi)) | ((with_reducible refine gate_dst (N := 12) rfl ?_); refine Kd.R_make (Kd.int .i64) _ 3 rfl (N := 12) rfl 26 _ _ rfl ji5 rfl rfl Try.underlying26 (.int .i64 0) 8 info3 rfl (by decide) (by omega) 0 (ok := fun _ => True) (okp := fun _ => True) rfl (fun _ hk => hk) trivial (of_decide_eq_true (by first | (with_reducible assumption) | assumption)) (Nat.le_trans (Nat.mul_le_mul_right _ (of_decide_eq_true (by first | (with_reducible assumption) | assumption) : ji5.toNat ≤ 35184372088832)) (by omega)) (Below.refl _ _) (Nat.le_refl _) ?_; intro v283 w14 ho15 hb hg_ hnew_; clear hg_ hnew_; (first | rw [← Ny282.out] at ho15 | (simp only [Int.reduceToNat] at ho15; rw [← Ny282.out] at ho15)); have n0_ := M.A_ (Kd.R_lower ho15 (below_size (M.Lw HB))); have n1_ := M.A_ (blk_below (M.Lb BK279) hb); have n2_ := M.A_ (below_step (M.Lw HB) hb); clear BK279; clear HB; have HO284 := n0_; have BK279 := n1_; have HB := n2_; clear n0_ n1_ n2_; clear hb ho15; have hcz16_0 : w14.cell? ⟨gb279, 0, none⟩ = some (.int .i64 a0_0) := (blk_cell BK279.out 0).trans rfl; have hcz16_1 : w14.cell? ⟨gb279, 1, none⟩ = some (.int .i64 a0_1) := (blk_cell BK279.out 1).trans rfl; have hfz16_0 := blk_frozen BK279.out 0; have hfz16_1 := blk_frozen BK279.out 1) | ((with_reducible refine gate_callee (f := 52) rfl ?_); refine goesL_ (some 14) rfl rfl Try.func52 (by kernel_rfl) rfl #[.agg #[.int .i64 a0_0, .int .i64 a0_1]] rfl (by first | rfl | (simp only [M.mt, M.mc, M.mn, M.ld, M.lt]; rfl)) ?_; (with_reducible refine (impl_Table_spectrum.calls k a0_0 a0_1 t285 _ A8.out).mono ?_); rintro e w17 ⟨v286, rfl, ho0, hb⟩; refine ⟨_, rfl, ?_⟩; have n0_ := M.A_ (Kd.R_elder' (M.Lr HO284) (Kd.R_base ho0) hb); have n1_ := M.A_ (Kd.R_lower (Kd.R_new' ho0 (Kd.R_lt (M.Lr HO284))) (below_size (M.Lw HB))); have n2_ := M.A_ (blk_below (M.Lb BK279) hb); have n3_ := M.A_ (below_step (M.Lw HB) hb); clear HO284; clear BK279; clear HB; have HO284 := n0_; have HO287 := n1_; have BK279 := n2_; have HB := n3_; clear n0_ n1_ n2_ n3_; (try clear hb); (try clear hb2); (try clear hk); (try clear hi); (try clear ho0); obtain ⟨Ao18, co18, eo18⟩ := Kd.R_slice HO287.out; subst eo18))
    go_loopg [16] k (fun kq v16 w' => ∃ (x3_1 : List Int) (x16_1 : Int), v16 = .int .i64 x16_1 ∧ Aside0 (impl_SpectrumProfile.l0 kq x3_1 t285 (t285.length : Int) x16_1 = some r) ∧ Aside0 (kq ≤ k) ∧ Aside0 (Kd.R (Kd.int .i64) 3 w' w.heap.size (fun k_ => some k_ ≠ ((.slice Ao18 t285.length co18) : Value).ownBlock) v283 x3_1) ∧ Aside0 (Kd.R (Kd.int .i64) 3 w' w.heap.size (fun k_ => some k_ ≠ (v283 : Value).ownBlock) (.slice Ao18 t285.length co18) t285) ∧ Aside0 (w'.heap[gb279]? = some (.cells #[.int .i64 a0_0, .int .i64 a0_1] 25 (0, 0))) ∧ Aside0 (Below w.heap.size w w'))
    case atStart => exact ⟨(y282), (0), (by first | rfl | (simp; done) | (simp [*]; done)), H', ⟨Nat.le_refl _⟩, ⟨by (with_reducible repeat (first | apply Kd.R_alloc | apply Kd.R_drewN | apply Kd.R_drew)); exact Kd.R_mono HO284.out (fun _ hk => hk.2)⟩, ⟨by (with_reducible repeat (first | apply Kd.R_alloc | apply Kd.R_drewN | apply Kd.R_drew)); exact Kd.R_mono HO287.out (fun _ hk => hk.2)⟩, ⟨M.Lb BK279⟩, ⟨by repeat (first | (with_reducible first | exact HB.out | apply below_alloc | apply pw_below_drewN | apply below_drew1 | refine below_set ?_ GB25.out | refine below_set ?_ GE279.out) | exact HB.out)⟩⟩
    case round =>
     clear H'; (try clear c1); (try clear p2); (try clear c3); (try clear c4); (try clear c5); (try clear c6); (try clear c6b0); (try clear c6b1); (try clear p6); (try clear c7); (try clear c7b0); (try clear c7b1); (try clear c12); (try clear hcz10_0); (try clear hcz10_1); (try clear hcz12_0); (try clear hcz12_1); (try clear hcz16_0); (try clear hcz16_1); (try clear hfz10_0); (try clear hfz10_1); (try clear hfz12_0); (try clear hfz12_1); (try clear hfz16_0); (try clear hfz16_1); obtain ⟨x3_1, x16_1, rfl, HA, HK1, HO_3, HO_14, BK279, HB⟩ := hrel
     cases gk with
     | zero => exact absurd HA.out (by simp [impl_SpectrumProfile.l0])
     | succ k1 =>
      have H := HA.out
      clear HA
      simp only [impl_SpectrumProfile.l0] at H
      by_cases c19 : x16_1 < (t285.length : Int)
      ·rw [if_pos c19] at H
       have c19b0 : decide (x16_1 < (t285.length : Int)) = true := decide_eq_true c19
       clear c19
       by_cases c20 : 0 ≤ x16_1
       ·rw [if_pos c20] at H
        have c20b0 : decide (0 ≤ x16_1) = true := decide_eq_true c20
        clear c20
        by_cases c21 : x16_1 < (t285.length : Int)
        ·rw [if_pos c21] at H
         have c21b0 : decide (x16_1 < (t285.length : Int)) = true := decide_eq_true c21
         clear c21; obtain ⟨t289, A22, H⟩ := M.ob_ H; (try dsimp only at H)
         by_cases c23 : 0 ≤ t289
         ·rw [if_pos c23] at H
          have c23b0 : decide (0 ≤ t289) = true := decide_eq_true c23
          clear c23
          by_cases c24 : t289 < (x3_1.length : Int)
          ·rw [if_pos c24] at H
           have c24b0 : decide (t289 < (x3_1.length : Int)) = true := decide_eq_true c24
           clear c24
           obtain ⟨y291, hy291⟩ : ∃ y_ : List Int, y_ = (x3_1.set (t289 : Int).toNat (wrap64 ((rd x3_1 t289) + 1))) := ⟨_, rfl⟩
           replace H : (impl_SpectrumProfile.l0 k1 y291 t285 (t285.length : Int) (wrap64 (x16_1 + 1))) = some r := by first | (rw [hy291]; with_reducible exact H) | (have H2_ := (Option.bind_some _ _).symm.trans H; rw [hy291]; with_reducible exact H2_) | (have H2_ := (Option.bind_some _ _).symm.trans H; with_reducible exact H2_) | with_reducible exact H | (rw [hy291]; exact H) | exact H
           have Ny291 := M.A_ hy291; clear hy291
           have H' := M.A_ H
           clear H
           have p288 : 0 ≤ (x16_1 : Int) := of_decide_eq_true (by first | (with_reducible assumption) | assumption)
           have q288 : x16_1 < (t285.length : Int) := of_decide_eq_true (by first | (with_reducible assumption) | assumption)
           obtain ⟨ad288, e288, hx288_0⟩ := Kd.at_int (Kd.R_reads' HO_14.out).2.2 x16_1 p288 q288
           cases e288
           replace p288 := eq_true p288
           replace q288 := eq_true q288
           go_wp2_with (first | ((with_reducible refine gate_callee (f := 53) rfl ?_); refine goesL_ (some 22) rfl rfl Try.func53 (by kernel_rfl) rfl #[.int .i64 (rd t285 x16_1)] rfl (by first | rfl | (simp only [M.mt, M.mc, M.mn, M.ld, M.lt]; rfl)) ?_; (with_reducible refine (impl_size1.calls (rd t285 x16_1) t289 _ A22.out).mono ?_); rintro e w26 ⟨rfl, hb⟩; refine ⟨_, rfl, ?_⟩; have n0_ := M.A_ (Kd.R_below (M.Lr HO_3) hb); have n1_ := M.A_ (Kd.R_below (M.Lr HO_14) hb); have n2_ := M.A_ (blk_below (M.Lb BK279) hb); have n3_ := M.A_ (below_step (by repeat (first | (with_reducible first | exact HB.out | apply M.ba | apply M.pd | apply below_drew1 | refine below_set ?_ GE279.out) | exact HB.out)) hb); clear HO_3; clear HO_14; clear BK279; clear HB; have HO_3 := n0_; have HO_14 := n1_; have BK279 := n2_; have HB := n3_; clear n0_ n1_ n2_ n3_; (try clear hb); (try clear hb2); (try clear hk); (try clear hi); obtain ⟨Ao27, co27, eo27⟩ := Kd.R_slice HO_3.out; subst eo27; have p290 : 0 ≤ (t289 : Int) := of_decide_eq_true (by first | (with_reducible assumption) | assumption); have q290 : t289 < (x3_1.length : Int) := of_decide_eq_true (by first | (with_reducible assumption) | assumption); obtain ⟨ad290, e290, hx290_0⟩ := Kd.at_int (Kd.R_reads' HO_3.out).2.2 t289 p290 q290; cases e290; replace p290 := eq_true p290; replace q290 := eq_true q290; have p25 : 0 ≤ (t289 : Int) := of_decide_eq_true (by first | (with_reducible assumption) | assumption); have q25 : (t289 : Int) < ((x3_1.length : Int) : Int) := of_decide_eq_true (by first | (with_reducible assumption) | assumption); obtain ⟨go25, co25, eo25, gb25, gl25, cl25, HG25⟩ := Kd.R_form HO_3.out (by omega); (first | cases eo25 | (injection eo25 with ea_ en_ ec_; (first | subst ea_ | (injection ea_ with ea_; subst ea_)); subst ec_; clear en_)); have GB25 := M.A_ gb25; have GG25 := M.A_ HG25; clear gb25 gl25 HG25; (first | simp only [add_plain] at hx290_0 | skip); obtain ⟨hx25_0, hf25_0⟩ := Kd.R_celln 0 HO_3.out (t289 : Int) p25 q25; replace p25 := eq_true p25; replace q25 := eq_true q25; obtain ⟨hy28_, hz28_⟩ := Kd.R_celln 0 HO_3.out (t289 : Int) (of_decide_eq_true (by first | (with_reducible assumption) | assumption)) (of_decide_eq_true (by first | (with_reducible assumption) | assumption)); have HP28 := Kd.R_putg HO_3.out (t289 : Int) (wrap64 ((rd x3_1 t289) + 1))) | ((with_reducible refine gate_store (t := 3) (p := 26) rfl ?_); refine store_event (t := 3) (p := 26) (v := ?vo_w29) (w1 := (w26.setCell ⟨go25, (t289 : Int).toNat, none⟩ (.int .i64 (wrap64 ((rd x3_1 t289) + 1))))) ?hg ?ho ?hn ?hr ?_; (case ho => rfl); (case hg => rfl); (case hn => rfl); (case hr => first | (go_simp; done) | (go_simp; rfl)); intro w29 hw; have hg : w26.grownBy w29 (some go25) := (by rw [hw]; exact HP28.2); have hp_ : Kd.R (Kd.int .i64) 3 w29 w.heap.size (fun k_ => some k_ ≠ (.slice (some ad288) t285.length co18 : Value).ownBlock) (.slice (some ⟨go25, 0, none⟩) x3_1.length co27) y291 := (by rw [hw, Ny291.out]; exact HP28.1); clear HP28; have n0_ := M.A_ (hp_); have n1_ := M.A_ (Kd.R_after (v := (.slice (some ⟨go25, 0, none⟩) x3_1.length co27)) (v1 := (.slice (some ⟨go25, 0, none⟩) x3_1.length co27)) (ok := (fun _ => True)) (by (with_reducible repeat (first | apply Kd.R_alloc | apply Kd.R_drewN | apply Kd.R_drew)); exact Kd.R_mono HO_14.out (fun _ hk => ⟨trivial, hk⟩)) hg (.inl rfl)); have n2_ := M.A_ (blk_grown (g := gb279) (o := .cells #[.int .i64 a0_0, .int .i64 a0_1] 25 (0, 0)) (M.Lb BK279) hg (Kd.R_ne HO_3.out BK279.out (by decide))); have n3_ := M.A_ ((by rw [hw]; exact below_set (HB.out) GB25.out : Below w.heap.size w w29)); clear HO_3; clear HO_14; clear BK279; clear HB; have HO_3 := n0_; have HO_14 := n1_; have BK279 := n2_; have HB := n3_; clear n0_ n1_ n2_ n3_; clear hg hw hp_))
           go_roundg k1
           case measure => have := HK1.out; omega
           case rel => exact ⟨(y291), (wrap64 (x16_1 + 1)), (by first | rfl | (simp; done) | (simp [*]; done)), H', ⟨by have := HK1.out; omega⟩, ⟨M.Lr HO_3⟩, ⟨by (with_reducible repeat (first | apply Kd.R_alloc | apply Kd.R_drewN | apply Kd.R_drew)); exact Kd.R_mono HO_14.out (fun _ hk => hk.2)⟩, ⟨M.Lb BK279⟩, ⟨by repeat (first | (with_reducible first | exact HB.out | apply below_alloc | apply pw_below_drewN | apply below_drew1 | refine below_set ?_ GB25.out | refine below_set ?_ GE279.out) | exact HB.out)⟩⟩
          ·rw [if_neg c24] at H
           exact absurd H (by simp)
         ·rw [if_neg c23] at H
          exact absurd H (by simp)
        ·rw [if_neg c21] at H
         exact absurd H (by simp)
       ·rw [if_neg c20] at H
        exact absurd H (by simp)
      ·rw [if_neg c19] at H
       have c19b0 : decide (x16_1 < (t285.length : Int)) = false := decide_eq_false c19
       clear c19
       obtain rfl := Option.some.inj H
       go_wp2
       go_ret
       exact ⟨_, by first | rfl | (simp [errW_none, errW_some] <;> rfl) | (simp only [← hji5]; first | rfl | (simp [errW_none, errW_some] <;> rfl)) | (simp [*, errW_none, errW_some] <;> rfl), by (with_reducible repeat (first | apply Kd.R_alloc | apply Kd.R_drewN | apply Kd.R_drew)); exact Kd.R_mono HO_3.out (fun _ hk => trivial), by repeat (first | (with_reducible first | exact HB.out | apply below_alloc | apply pw_below_drewN | apply below_drew1 | refine below_set ?_ GB25.out | refine below_set ?_ GE279.out) | exact HB.out)⟩
   ·rw [if_neg c7] at H
    exact absurd H (by simp)
  ·rw [if_neg c6] at H
   exact absurd H (by simp)
 ·replace c3 := Bool.eq_false_iff.mpr c3
  subst c3
  rw [if_neg (show ¬ (false = true) by decide)] at H; (try dsimp only at H)
  obtain rfl := Option.some.inj H
  go_enter Try.func12, Try.ntmps12
  go_wp2_with (first | ((with_reducible refine gate_dst (N := 1) rfl ?_); refine box_event ?hg (N := 1) ?hd (cs := #[.int .i64 a0_0, .int .i64 a0_1]) (t := 25) ?hr ?_; (case hd => rfl); (case hg => rfl); (case hr => first | (go_simp; done) | (go_simp; rfl)); intro gb279 hg w30 hbox hb; have n0_ := M.A_ (below_step (M.Lw HB) hb); have n1_ := M.A_ (hbox); have n2_ := M.A_ ((by rw [hg]; exact (below_size (M.Lw HB)) : w.heap.size ≤ gb279)); have n3_ := M.A_ ((by rw [hg]; exact (below_size (M.Lw HB)) : w.heap.size ≤ gb279)); clear HB; have HB := n0_; have BK279 := n1_; have GW279 := n2_; have GE279 := n3_; clear n0_ n1_ n2_ n3_; clear hb hbox hg; have hcz31_0 : w30.cell? ⟨gb279, 0, none⟩ = some (.int .i64 a0_0) := (blk_cell BK279.out 0).trans rfl; have hcz31_1 : w30.cell? ⟨gb279, 1, none⟩ = some (.int .i64 a0_1) := (blk_cell BK279.out 1).trans rfl; have hfz31_0 := blk_frozen BK279.out 0; have hfz31_1 := blk_frozen BK279.out 1) | ((with_reducible refine gate_callee (f := 46) rfl ?_); refine goesL_ (some 7) rfl rfl Try.func46 (by kernel_rfl) rfl #[.agg #[.int .i64 a0_0, .int .i64 a0_1]] rfl (by first | rfl | (simp only [M.mt, M.mc, M.mn, M.ld, M.lt]; rfl)) ?_; (with_reducible refine (impl_IsTable.calls a0_0 a0_1 false _ A2.out).mono ?_); rintro e w32 ⟨rfl, hb⟩; refine ⟨_, rfl, ?_⟩; have n0_ := M.A_ (blk_below (M.Lb BK279) hb); have n1_ := M.A_ (below_step (M.Lw HB) hb); clear BK279; clear HB; have BK279 := n0_; have HB := n1_; clear n0_ n1_; (try clear hb); (try clear hb2); (try clear hk); (try clear hi)))
  go_ret
  exact ⟨_, by first | rfl | (simp [*, errW_none, errW_some] <;> rfl), by first | exact Kd.R_nil _ _ _ _ _ | exact Kd.N_nil _ _ _ _ _ | exact Kd.V_nil _ _ _ _ _ | exact Kd.Q_nil _ _ _ _ _ | exact Kd.S_nil _ _ _ _ _, by repeat (first | (with_reducible first | exact HB.out | apply below_alloc | apply pw_below_drewN | apply below_drew1 | refine below_set ?_ GB25.out | refine below_set ?_ GE279.out) | exact HB.out)⟩
end Go.Proofs.Ytodfifkgohjpfaa.Print
namespace Go.Proofs.Ytodfifkgohjpfaa.Print
open Go.RowKit Go.Proofs.YtodfifkgohjpfaaW.PrintWords Go.Proofs.YtodfifkgohjpfaaW.PrintLast Go.Proofs.YtodfifkgohjpfaaW.PrintMore
attribute [local go_sem] max2_int min2_int max_two min_two max_three min_three max_four min_four   -- for this text's walks alone
set_option linter.unusedVariables false
set_option linter.unusedSimpArgs false
open Go.Proofs.Ytodfifkgohjpfaa.M
def impl_IsBent.flat (l : List Int) : Bool := !(l.any (fun a => mx a (wrap64 (-a)) != mx (l.getD 0 0) (wrap64 (-(l.getD 0 0)))))
def impl_IsBent.f (k : Nat) (a0_0 : Int) (a0_1 : Int) : Option Bool :=
 (impl_IsTable.f a0_0 a0_1).bind fun q => if q = true ∧ (a0_0 = 2 ∨ a0_0 = 4) then ((impl_Table_spectrum.f k a0_0 a0_1).bind fun c => if 0 < c.length then some (impl_IsBent.flat c) else none) else some false
def impl_IsBent.rS (w : World) (B : Nat) (ad : Addr) (s : Value) (y : Int) (W : World) : Prop := W.cell? ⟨B, 0, none⟩ = some s ∧ W.cell? ad = some (.int .i64 y) ∧ Below w.heap.size w W
theorem impl_IsBent.rS.step {w : World} {B : Nat} {ad : Addr} {s : Value} {y : Int} {W W' : World} (hB : B < w.heap.size) (hA : ad.block < w.heap.size) (h : impl_IsBent.rS w B ad s y W) (hb : Below W.heap.size W W') : impl_IsBent.rS w B ad s y W' := by
 obtain ⟨h1, h2, h3⟩ := h
 have hs := h3.size
 exact ⟨(hb.cell (p := ⟨B, 0, none⟩) (by show B < _; omega)).trans h1, (hb.cell (p := ad) (by omega)).trans h2, h3.trans (hb.mono hs)⟩
theorem impl_IsBent.lt {w : World} {p : Addr} {u : Value} (h : w.cell? p = some u) : p.block < w.heap.size := by
 rcases Nat.lt_or_ge p.block w.heap.size with h' | h'
 ·exact h'
 ·exfalso
  have h4 : w.heap[p.block]? = none := Array.getElem?_eq_none h'
  unfold World.cell? at h
  rw [h4] at h
  simp at h
set_option maxHeartbeats 1600000 in
theorem impl_IsBent.clo (B : Nat) (A : Option Addr) (cap : Nat) (l : List Int) (a : Int) (hl : 0 < l.length) (w : World) (hBs : B < w.heap.size) (hB : w.cell? ⟨B, 0, none⟩ = some (.slice A l.length cap)) (hr : Kd.C (Kd.int .i64) w A l.length l) :
  Calls Try.prog 55 #[.int .i64 a, .pointer (some ⟨B, 0, none⟩)] w fun e w' => e = .returned (.bool (mx a (wrap64 (-a)) != mx (l.getD 0 0) (wrap64 (-(l.getD 0 0))))) ∧ Below w.heap.size w w' := by
 obtain ⟨ad, ea, c0⟩ := Kd.at_int hr 0 (by omega) (by omega)
 subst ea
 have c1 : w.cell? ad = some (.int .i64 (l.getD 0 0)) := c0
 have hxi : (0 : Int) < (l.length : Int) := by omega
 have hA := impl_IsBent.lt c1
 generalize l.getD 0 0 = y at *
 clear c0 hr
 have CS := M.A_ (fun (z : Int) W => impl_size1.calls z _ W (show impl_size1.f z = some (mx z (wrap64 (-z))) from rfl))
 have h0 : impl_IsBent.rS w B ad (.slice (some ad) l.length cap) y w.drew := ⟨hB, c1, (Below.refl _ _).drew⟩
 obtain ⟨m1, hm1⟩ : ∃ m, mx a (wrap64 (-a)) = m := ⟨_, rfl⟩
 obtain ⟨m2, hm2⟩ : ∃ m, mx y (wrap64 (-y)) = m := ⟨_, rfl⟩
 have C1 := M.A_ (fun W => (CS.out a W))
 have C2 := M.A_ (fun W => (CS.out y W))
 rw [hm1] at C1
 rw [hm2] at C2
 rw [hm1, hm2]
 clear hm1 hm2 CS
 go_enter Try.func55, Try.ntmps55
 go_wp2
 go_region_held3 (fun W => W.cell? ⟨B, 0, none⟩ = some (.slice (some ad) l.length cap) ∧ W.cell? ad = some (.int .i64 y) ∧ Below w.heap.size w W) (first | exact h0 | (refine impl_IsBent.rS.step hBs hA (by assumption) ?_; first | assumption | exact Below.refl _ _))
  (first | (go_at_call 53; (with_reducible first | refine (C1.out _).mono ?_ | refine (C2.out _).mono ?_); rintro e w' ⟨rfl, hb⟩))
 go_wp2
 go_ret
 exact ⟨rfl, (by assumption : _ ∧ _ ∧ _).2.2⟩
theorem impl_IsBent.any (B : Nat) (A : Option Addr) (cap : Nat) (l : List Int) (hl : 0 < l.length) (w : World) (hBs : B < w.heap.size) (hB : w.cell? ⟨B, 0, none⟩ = some (.slice A l.length cap)) (hr : Kd.C (Kd.int .i64) w A l.length l) :
  Calls Try.prog 54 #[.slice A l.length cap, .func (.func 55) #[] #[.pointer (some ⟨B, 0, none⟩)]] w fun e w' => e = .returned (.bool (!impl_IsBent.flat l)) ∧ Below w.heap.size w w' := by
 have h := slices_ContainsFunc_int_int.call (fun a => mx a (wrap64 (-a)) != mx (l.getD 0 0) (wrap64 (-(l.getD 0 0)))) 55 #[.pointer (some ⟨B, 0, none⟩)] (enters_of Try.func55 (by kernel_rfl) rfl) A cap l w hr hr.2.1
  (fun x W _ hb => impl_IsBent.clo B A cap l x hl W (Nat.lt_of_lt_of_le hBs hb.size) ((hb.cell (p := ⟨B, 0, none⟩) hBs).trans hB) (Kd.C_below hr hb))
 unfold impl_IsBent.flat
 rw [Bool.not_not]
 exact h
set_option maxHeartbeats 4000000 in
set_option maxRecDepth 100000 in
theorem impl_IsBent.good (k : Nat) (n b : Int) (c : List Int) (hn : n = 2 ∨ n = 4) (hq : impl_IsTable.f n b = some true) (hcf : impl_Table_spectrum.f k n b = some c) (hlen : 0 < c.length) (w : World) :
  Calls Try.prog 13 #[.agg #[.int .i64 n, .int .i64 b]] w fun e w' => e = .returned (.bool (impl_IsBent.flat c)) ∧ Below w.heap.size w w' := by
 have huT := Try.underlying25
 obtain ⟨W0, hW0⟩ : ∃ W0, W0 = w.alloc (.cells #[.int .i64 n, .int .i64 b] 25) := ⟨_, rfl⟩
 have HB : Below w.heap.size w W0 := by rw [hW0]; exact (Below.refl _ _).alloc (Nat.le_refl _) _
 have c0 : W0.heap[w.heap.size]? = some (.cells #[.int .i64 n, .int .i64 b] 25 (0, 0)) := by rw [hW0]; exact blk_new w _
 have CT : Aside0 (∀ W, Calls Try.prog 46 #[.agg #[.int .i64 n, .int .i64 b]] W fun e w' => e = .returned (.bool true) ∧ Below W.heap.size W w') := ⟨fun W => impl_IsTable.calls n b true W hq⟩
 have CC : Aside0 (∀ W, Calls Try.prog 52 #[.agg #[.int .i64 n, .int .i64 b]] W fun e w' => ∃ v0_ : Value, e = .returned v0_ ∧ Kd.R (Kd.int .i64) 3 w' W.heap.size (fun _ => True) v0_ c ∧ Below W.heap.size W w') := ⟨fun W => impl_Table_spectrum.calls k n b c W hcf⟩
 have CD : Aside0 (∀ B A cap W, B < W.heap.size → W.cell? ⟨B, 0, none⟩ = some (.slice A c.length cap) → Kd.C (Kd.int .i64) W A c.length c → Calls Try.prog 54 #[.slice A c.length cap, .func (.func 55) #[] #[.pointer (some ⟨B, 0, none⟩)]] W fun e w' => e = .returned (.bool (!impl_IsBent.flat c)) ∧ Below W.heap.size W w') := ⟨fun B A cap W hB hc hr => impl_IsBent.any B A cap c hlen W hB hc hr⟩
 have HBB := M.A_ HB; have CW := M.A_ hW0; have C0 := M.A_ c0; clear HB hW0 c0 hq hcf hlen
 generalize impl_IsBent.flat c = R at *
 rcases hn with rfl | rfl
 all_goals
  go_enter Try.func13, Try.ntmps13
  go_wp2_with (first | (go_at_call 46; rw [← CW.out]; (with_reducible refine (CT.out _).mono ?_); rintro e w1 ⟨rfl, hb⟩; have B1 := M.A_ hb; clear hb; have p0 := blk_cell (blk_below C0.out B1.out) 0; have p1 := blk_cell (blk_below C0.out B1.out) 1) | (go_at_call 52; (with_reducible refine (CC.out _).mono ?_); rintro e w2 ⟨v2, rfl, hr, hb⟩; have B2 := M.A_ (B1.out.trans (hb.mono B1.out.size)); have HR := M.A_ hr; clear hb hr; obtain ⟨Ao, co, rfl⟩ := Kd.R_slice HR.out; have q0 := (blk_cell (blk_new w2 (.cells #[.slice Ao c.length co] 26 (0, 0))) 0).trans rfl) | (go_at_call 54; (with_reducible refine (CD.out w2.heap.size Ao co _ (by (try rw [World.alloc_eq]); simp) ((blk_cell (blk_new w2 (.cells #[.slice Ao c.length co] 26 (0, 0))) 0).trans rfl) (Kd.C_below (Kd.R_reads' HR.out).2.2 ((Below.refl _ _).alloc (Nat.le_refl _) _))).mono ?_); rintro e w3 ⟨rfl, hb⟩; have B3 := M.A_ hb; clear hb))
  go_ret
  have B4 := B2.out.alloc B2.out.size (.cells #[.slice Ao c.length co] 26 (0, 0))
  have B5 := B4.trans (B3.out.mono B4.size)
  exact ⟨rfl, HBB.out.trans (B5.mono HBB.out.size)⟩
set_option maxHeartbeats 1600000 in
theorem impl_IsBent.bad (a b : Int) (q : Bool) (hq : impl_IsTable.f a b = some q) (hn : ¬(q = true ∧ (a = 2 ∨ a = 4))) (w : World) :
  Calls Try.prog 13 #[.agg #[.int .i64 a, .int .i64 b]] w fun e w' => e = .returned (.bool false) ∧ Below w.heap.size w w' := by
 have huT := Try.underlying25
 obtain ⟨W0, hW0⟩ : ∃ W0, W0 = w.alloc (.cells #[.int .i64 a, .int .i64 b] 25) := ⟨_, rfl⟩
 have HB : Below w.heap.size w W0 := by rw [hW0]; exact (Below.refl _ _).alloc (Nat.le_refl _) _
 have c0 : W0.heap[w.heap.size]? = some (.cells #[.int .i64 a, .int .i64 b] 25 (0, 0)) := by rw [hW0]; exact blk_new w _
 have CT : Aside0 (∀ W, Calls Try.prog 46 #[.agg #[.int .i64 a, .int .i64 b]] W fun e w' => e = .returned (.bool q) ∧ Below W.heap.size W w') := ⟨fun W => impl_IsTable.calls a b q W hq⟩
 have HBB := M.A_ HB; have CW := M.A_ hW0; have C0 := M.A_ c0; clear HB hW0 c0 hq
 cases q with
 | false =>
  clear hn
  go_enter Try.func13, Try.ntmps13
  go_wp2_with (first | (go_at_call 46; rw [← CW.out]; (with_reducible refine (CT.out _).mono ?_); rintro e w1 ⟨rfl, hb⟩; have B1 := M.A_ hb; clear hb; have p0 := blk_cell (blk_below C0.out B1.out) 0; have p1 := blk_cell (blk_below C0.out B1.out) 1))
  go_ret
  exact ⟨rfl, HBB.out.trans (B1.out.mono HBB.out.size)⟩
 | true =>
  have n2 : a ≠ 2 := fun e => hn ⟨rfl, .inl e⟩
  have n4 : a ≠ 4 := fun e => hn ⟨rfl, .inr e⟩
  clear hn
  have m2 : (a != 2) = true := bne_iff_ne.mpr n2
  have m4 : (a != 4) = true := bne_iff_ne.mpr n4
  go_enter Try.func13, Try.ntmps13
  go_wp2_with (first | (go_at_call 46; rw [← CW.out]; (with_reducible refine (CT.out _).mono ?_); rintro e w1 ⟨rfl, hb⟩; have B1 := M.A_ hb; clear hb; have p0 := blk_cell (blk_below C0.out B1.out) 0; have p1 := blk_cell (blk_below C0.out B1.out) 1))
  go_ret
  exact ⟨rfl, HBB.out.trans (B1.out.mono HBB.out.size)⟩
theorem impl_IsBent.calls (k : Nat) (a0_0 : Int) (a0_1 : Int) (r : Bool) (w : World) (h : impl_IsBent.f k a0_0 a0_1 = some r) :
  Calls Try.prog 13 #[.agg #[.int .i64 a0_0, .int .i64 a0_1]] w fun e w' => e = .returned (.bool r) ∧ Below w.heap.size w w' := by
 unfold impl_IsBent.f at h
 obtain ⟨q, hq, h⟩ := Option.bind_eq_some_iff.mp h
 by_cases hn : q = true ∧ (a0_0 = 2 ∨ a0_0 = 4)
 ·rw [if_pos hn] at h
  obtain ⟨rfl, hn⟩ := hn
  obtain ⟨c, hc, h⟩ := Option.bind_eq_some_iff.mp h
  by_cases hl : 0 < c.length
  ·rw [if_pos hl] at h
   rw [← Option.some.inj h]
   exact impl_IsBent.good k a0_0 a0_1 c hn hq hc hl w
  ·rw [if_neg hl] at h; cases h
 ·rw [if_neg hn] at h
  rw [← Option.some.inj h]
  exact impl_IsBent.bad a0_0 a0_1 q hq hn w
end Go.Proofs.Ytodfifkgohjpfaa.Print
