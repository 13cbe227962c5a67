/- Functions of the given program as plain Lean functions, with proofs that their calls compute them, or lemmas on these. Laid by a program of this repo for the seat YtmdpjmcleckedaaDoor; Lean checks it. -/
import Derived.Test.YtmdpjmcleckedaaDoorKExactSmallestFormula0
import Derived.Test.YtmdpjmcleckedaaDoorKExactSmallestFormula2
namespace Go.Proofs.YtmdpjmcleckedaaDoor.Print
open Go.RowKit Go.Proofs.YtmdpjmcleckedaaDoorW.PrintWords Go.Proofs.YtmdpjmcleckedaaDoorW.PrintLast Go.Proofs.YtmdpjmcleckedaaDoorW.PrintMore
attribute [local go_sem] max2_int min2_int max_two min_two max_three min_three max_four min_four   -- for this text's walks alone
set_option linter.unusedVariables false
set_option linter.unusedSimpArgs false

/-! ### spec_l22Write: function 8 -/
mutual
def spec_l22Write.l0 : Nat → List Int → Int → Int → Int → Option (ByteArray)
  | 0, _, _, _, _ => none
  | k + 1, x0, x1, x2, x7 => if x7 < x1 then (if 0 ≤ x2 then (if x2 < (x0.length : Int) then (spec_l22Write.j1 k x0 x1 x2 x7 ((rd x0 x2) == 1)) else (none)) else (none)) else (spec_l22Write.j1 k x0 x1 x2 x7 false)
def spec_l22Write.j1 : Nat → List Int → Int → Int → Int → Bool → Option (ByteArray)
  | 0, _, _, _, _, _ => none
  | k + 1, x0, x1, x2, x7, x26 => if x26 = true then ((spec_l2Variable.f k x1 x7).bind fun t106 => (if x2 = t106 then (if 0 ≤ x7 then (if x7 ≤ (wrap64 (x7 + 1)) then (if (wrap64 (x7 + 1)) ≤ 5 then (some ((⟨#[97, 98, 99, 100, 101]⟩ : ByteArray).extract (x7 : Int).toNat ((wrap64 (x7 + 1)) : Int).toNat)) else (none)) else (none)) else (none)) else ((spec_l2Full.f x1).bind fun t107 => ((spec_l2Variable.f k x1 x7).bind fun t108 => (if x2 = (wrap64 (t107 - t108)) then (if 0 ≤ x7 then (if x7 ≤ (wrap64 (x7 + 1)) then (if (wrap64 (x7 + 1)) ≤ 5 then (if 1 + ((⟨#[97, 98, 99, 100, 101]⟩ : ByteArray).extract (x7 : Int).toNat ((wrap64 (x7 + 1)) : Int).toNat).size ≤ 9223372036854775807 then (some ((⟨#[33]⟩ : ByteArray) ++ ((⟨#[97, 98, 99, 100, 101]⟩ : ByteArray).extract (x7 : Int).toNat ((wrap64 (x7 + 1)) : Int).toNat))) else (none)) else (none)) else (none)) else (none)) else (spec_l22Write.l0 k x0 x1 x2 (wrap64 (x7 + 1)))))))) else (spec_l22Write.l1 k x0 x1 x2 0)
def spec_l22Write.l1 : Nat → List Int → Int → Int → Int → Option (ByteArray)
  | 0, _, _, _, _ => none
  | k + 1, x0, x1, x2, x8 => if x8 < 2 then (spec_l22Write.l2 k x0 x1 x2 x8 1) else (some (⟨#[]⟩ : ByteArray))
def spec_l22Write.l2 : Nat → List Int → Int → Int → Int → Int → Option (ByteArray)
  | 0, _, _, _, _, _ => none
  | k + 1, x0, x1, x2, x8, x9 => (spec_l2Full.f x1).bind fun t109 => (if x9 < t109 then (if 0 ≤ x9 then (if x9 < (x0.length : Int) then (if 0 ≤ x2 then (if x2 < (x0.length : Int) then (if (rd x0 x9) ≥ (rd x0 x2) then (spec_l22Write.l2 k x0 x1 x2 x8 (wrap64 (x9 + 1))) else (spec_l22Write.l3 k x0 x1 x2 x8 x9 1)) else (none)) else (none)) else (none)) else (none)) else (spec_l22Write.l1 k x0 x1 x2 (wrap64 (x8 + 1))))
def spec_l22Write.l3 : Nat → List Int → Int → Int → Int → Int → Int → Option (ByteArray)
  | 0, _, _, _, _, _, _ => none
  | k + 1, x0, x1, x2, x8, x9, x10 => (spec_l2Full.f x1).bind fun t112 => (if x10 < t112 then (if 0 ≤ x9 then (if x9 < (x0.length : Int) then (if 0 ≤ x10 then (if x10 < (x0.length : Int) then (if 0 ≤ x2 then (if x2 < (x0.length : Int) then (if (wrap64 ((rd x0 x9) + (rd x0 x10))) = (rd x0 x2) then (if x8 = 0 then (spec_l22Write.j5 k x0 x1 x2 x8 x9 x10 ((Go.bits .and .i64 x9 x10) == x2)) else (spec_l22Write.j5 k x0 x1 x2 x8 x9 x10 false)) else (spec_l22Write.l3 k x0 x1 x2 x8 x9 (wrap64 (x10 + 1)))) else (none)) else (none)) else (none)) else (none)) else (none)) else (none)) else (spec_l22Write.l2 k x0 x1 x2 x8 (wrap64 (x9 + 1))))
def spec_l22Write.j5 : Nat → List Int → Int → Int → Int → Int → Int → Bool → Option (ByteArray)
  | 0, _, _, _, _, _, _, _ => none
  | k + 1, x0, x1, x2, x8, x9, x10, x98 => if x98 = true then ((spec_l22Write.f k x0 x1 x9).bind fun t116 => (if 1 + t116.size ≤ 9223372036854775807 then ((spec_l22Write.f k x0 x1 x10).bind fun t117 => (if ((⟨#[38]⟩ : ByteArray) ++ t116).size + t117.size ≤ 9223372036854775807 then (some (((⟨#[38]⟩ : ByteArray) ++ t116) ++ t117)) else (none))) else (none))) else (if x8 = 1 then (spec_l22Write.j6 k x0 x1 x2 x8 x9 x10 ((Go.bits .or .i64 x9 x10) == x2)) else (spec_l22Write.j6 k x0 x1 x2 x8 x9 x10 false))
def spec_l22Write.j6 : Nat → List Int → Int → Int → Int → Int → Int → Bool → Option (ByteArray)
  | 0, _, _, _, _, _, _, _ => none
  | k + 1, x0, x1, x2, x8, x9, x10, x117 => if x117 = true then ((spec_l22Write.f k x0 x1 x9).bind fun t118 => (if 1 + t118.size ≤ 9223372036854775807 then ((spec_l22Write.f k x0 x1 x10).bind fun t119 => (if ((⟨#[124]⟩ : ByteArray) ++ t118).size + t119.size ≤ 9223372036854775807 then (some (((⟨#[124]⟩ : ByteArray) ++ t118) ++ t119)) else (none))) else (none))) else (spec_l22Write.l3 k x0 x1 x2 x8 x9 (wrap64 (x10 + 1)))
def spec_l22Write.f : Nat → List Int → Int → Int → Option (ByteArray)
  | 0, _, _, _ => none
  | k + 1, l0, a1, a2 => if a2 = 0 then (some (⟨#[48]⟩ : ByteArray)) else ((spec_l2Full.f a1).bind fun t104 => (if a2 = t104 then (some (⟨#[49]⟩ : ByteArray)) else (spec_l22Write.l0 k l0 a1 a2 0)))
end
theorem spec_l22Write.mono_l : ∀ k, (∀ y0 y1 y2, LeO (spec_l22Write.f k y0 y1 y2) (spec_l22Write.f (k + 1) y0 y1 y2)) ∧ (∀ y0 y1 y2 y3, LeO (spec_l22Write.l0 k y0 y1 y2 y3) (spec_l22Write.l0 (k + 1) y0 y1 y2 y3)) ∧ (∀ y0 y1 y2 y3 y4, LeO (spec_l22Write.j1 k y0 y1 y2 y3 y4) (spec_l22Write.j1 (k + 1) y0 y1 y2 y3 y4)) ∧ (∀ y0 y1 y2 y3, LeO (spec_l22Write.l1 k y0 y1 y2 y3) (spec_l22Write.l1 (k + 1) y0 y1 y2 y3)) ∧ (∀ y0 y1 y2 y3 y4, LeO (spec_l22Write.l2 k y0 y1 y2 y3 y4) (spec_l22Write.l2 (k + 1) y0 y1 y2 y3 y4)) ∧ (∀ y0 y1 y2 y3 y4 y5, LeO (spec_l22Write.l3 k y0 y1 y2 y3 y4 y5) (spec_l22Write.l3 (k + 1) y0 y1 y2 y3 y4 y5)) ∧ (∀ y0 y1 y2 y3 y4 y5 y6, LeO (spec_l22Write.j5 k y0 y1 y2 y3 y4 y5 y6) (spec_l22Write.j5 (k + 1) y0 y1 y2 y3 y4 y5 y6)) ∧ (∀ y0 y1 y2 y3 y4 y5 y6, LeO (spec_l22Write.j6 k y0 y1 y2 y3 y4 y5 y6) (spec_l22Write.j6 (k + 1) y0 y1 y2 y3 y4 y5 y6))
  | 0 => ⟨fun _ _ _ r h => by simp [spec_l22Write.f] at h, fun _ _ _ _ r h => by simp [spec_l22Write.l0] at h, fun _ _ _ _ _ r h => by simp [spec_l22Write.j1] at h, fun _ _ _ _ r h => by simp [spec_l22Write.l1] at h, fun _ _ _ _ _ r h => by simp [spec_l22Write.l2] at h, fun _ _ _ _ _ _ r h => by simp [spec_l22Write.l3] at h, fun _ _ _ _ _ _ _ r h => by simp [spec_l22Write.j5] at h, fun _ _ _ _ _ _ _ r h => by simp [spec_l22Write.j6] at h⟩
  | k + 1 => by
    obtain ⟨ih0, ih1, ih2, ih3, ih4, ih5, ih6, ih7⟩ := spec_l22Write.mono_l k
    refine ⟨?_, ?_, ?_, ?_, ?_, ?_, ?_, ?_⟩
    · intro y0 y1 y2
      unfold spec_l22Write.f
      repeat' first
      | (with_reducible exact ih0 _ _ _)
      | (with_reducible exact ih1 _ _ _ _)
      | (with_reducible exact ih2 _ _ _ _ _)
      | (with_reducible exact ih3 _ _ _ _)
      | (with_reducible exact ih4 _ _ _ _ _)
      | (with_reducible exact ih5 _ _ _ _ _ _)
      | (with_reducible exact ih6 _ _ _ _ _ _ _)
      | (with_reducible exact ih7 _ _ _ _ _ _ _)
      | (with_reducible exact spec_l2Variable.mono _ _ _)
      | (with_reducible exact LeO.refl _)
      | (with_reducible exact LeO.none _)
      | (with_reducible refine LeO.ite ?_ ?_)
      | (with_reducible refine LeO.bind ?_ (fun _ => ?_))
      | exact ih0 _ _ _
      | exact ih1 _ _ _ _
      | exact ih2 _ _ _ _ _
      | exact ih3 _ _ _ _
      | exact ih4 _ _ _ _ _
      | exact ih5 _ _ _ _ _ _
      | exact ih6 _ _ _ _ _ _ _
      | exact ih7 _ _ _ _ _ _ _
      | exact spec_l2Variable.mono _ _ _
      | exact LeO.none _
      | refine LeO.ite ?_ ?_
      | refine LeO.bind ?_ (fun _ => ?_)
    · intro y0 y1 y2 y3
      unfold spec_l22Write.l0
      repeat' first
      | (with_reducible exact ih0 _ _ _)
      | (with_reducible exact ih1 _ _ _ _)
      | (with_reducible exact ih2 _ _ _ _ _)
      | (with_reducible exact ih3 _ _ _ _)
      | (with_reducible exact ih4 _ _ _ _ _)
      | (with_reducible exact ih5 _ _ _ _ _ _)
      | (with_reducible exact ih6 _ _ _ _ _ _ _)
      | (with_reducible exact ih7 _ _ _ _ _ _ _)
      | (with_reducible exact spec_l2Variable.mono _ _ _)
      | (with_reducible exact LeO.refl _)
      | (with_reducible exact LeO.none _)
      | (with_reducible refine LeO.ite ?_ ?_)
      | (with_reducible refine LeO.bind ?_ (fun _ => ?_))
      | exact ih0 _ _ _
      | exact ih1 _ _ _ _
      | exact ih2 _ _ _ _ _
      | exact ih3 _ _ _ _
      | exact ih4 _ _ _ _ _
      | exact ih5 _ _ _ _ _ _
      | exact ih6 _ _ _ _ _ _ _
      | exact ih7 _ _ _ _ _ _ _
      | exact spec_l2Variable.mono _ _ _
      | exact LeO.none _
      | refine LeO.ite ?_ ?_
      | refine LeO.bind ?_ (fun _ => ?_)
    · intro y0 y1 y2 y3 y4
      unfold spec_l22Write.j1
      repeat' first
      | (with_reducible exact ih0 _ _ _)
      | (with_reducible exact ih1 _ _ _ _)
      | (with_reducible exact ih2 _ _ _ _ _)
      | (with_reducible exact ih3 _ _ _ _)
      | (with_reducible exact ih4 _ _ _ _ _)
      | (with_reducible exact ih5 _ _ _ _ _ _)
      | (with_reducible exact ih6 _ _ _ _ _ _ _)
      | (with_reducible exact ih7 _ _ _ _ _ _ _)
      | (with_reducible exact spec_l2Variable.mono _ _ _)
      | (with_reducible exact LeO.refl _)
      | (with_reducible exact LeO.none _)
      | (with_reducible refine LeO.ite ?_ ?_)
      | (with_reducible refine LeO.bind ?_ (fun _ => ?_))
      | exact ih0 _ _ _
      | exact ih1 _ _ _ _
      | exact ih2 _ _ _ _ _
      | exact ih3 _ _ _ _
      | exact ih4 _ _ _ _ _
      | exact ih5 _ _ _ _ _ _
      | exact ih6 _ _ _ _ _ _ _
      | exact ih7 _ _ _ _ _ _ _
      | exact spec_l2Variable.mono _ _ _
      | exact LeO.none _
      | refine LeO.ite ?_ ?_
      | refine LeO.bind ?_ (fun _ => ?_)
    · intro y0 y1 y2 y3
      unfold spec_l22Write.l1
      repeat' first
      | (with_reducible exact ih0 _ _ _)
      | (with_reducible exact ih1 _ _ _ _)
      | (with_reducible exact ih2 _ _ _ _ _)
      | (with_reducible exact ih3 _ _ _ _)
      | (with_reducible exact ih4 _ _ _ _ _)
      | (with_reducible exact ih5 _ _ _ _ _ _)
      | (with_reducible exact ih6 _ _ _ _ _ _ _)
      | (with_reducible exact ih7 _ _ _ _ _ _ _)
      | (with_reducible exact spec_l2Variable.mono _ _ _)
      | (with_reducible exact LeO.refl _)
      | (with_reducible exact LeO.none _)
      | (with_reducible refine LeO.ite ?_ ?_)
      | (with_reducible refine LeO.bind ?_ (fun _ => ?_))
      | exact ih0 _ _ _
      | exact ih1 _ _ _ _
      | exact ih2 _ _ _ _ _
      | exact ih3 _ _ _ _
      | exact ih4 _ _ _ _ _
      | exact ih5 _ _ _ _ _ _
      | exact ih6 _ _ _ _ _ _ _
      | exact ih7 _ _ _ _ _ _ _
      | exact spec_l2Variable.mono _ _ _
      | exact LeO.none _
      | refine LeO.ite ?_ ?_
      | refine LeO.bind ?_ (fun _ => ?_)
    · intro y0 y1 y2 y3 y4
      unfold spec_l22Write.l2
      repeat' first
      | (with_reducible exact ih0 _ _ _)
      | (with_reducible exact ih1 _ _ _ _)
      | (with_reducible exact ih2 _ _ _ _ _)
      | (with_reducible exact ih3 _ _ _ _)
      | (with_reducible exact ih4 _ _ _ _ _)
      | (with_reducible exact ih5 _ _ _ _ _ _)
      | (with_reducible exact ih6 _ _ _ _ _ _ _)
      | (with_reducible exact ih7 _ _ _ _ _ _ _)
      | (with_reducible exact spec_l2Variable.mono _ _ _)
      | (with_reducible exact LeO.refl _)
      | (with_reducible exact LeO.none _)
      | (with_reducible refine LeO.ite ?_ ?_)
      | (with_reducible refine LeO.bind ?_ (fun _ => ?_))
      | exact ih0 _ _ _
      | exact ih1 _ _ _ _
      | exact ih2 _ _ _ _ _
      | exact ih3 _ _ _ _
      | exact ih4 _ _ _ _ _
      | exact ih5 _ _ _ _ _ _
      | exact ih6 _ _ _ _ _ _ _
      | exact ih7 _ _ _ _ _ _ _
      | exact spec_l2Variable.mono _ _ _
      | exact LeO.none _
      | refine LeO.ite ?_ ?_
      | refine LeO.bind ?_ (fun _ => ?_)
    · intro y0 y1 y2 y3 y4 y5
      unfold spec_l22Write.l3
      repeat' first
      | (with_reducible exact ih0 _ _ _)
      | (with_reducible exact ih1 _ _ _ _)
      | (with_reducible exact ih2 _ _ _ _ _)
      | (with_reducible exact ih3 _ _ _ _)
      | (with_reducible exact ih4 _ _ _ _ _)
      | (with_reducible exact ih5 _ _ _ _ _ _)
      | (with_reducible exact ih6 _ _ _ _ _ _ _)
      | (with_reducible exact ih7 _ _ _ _ _ _ _)
      | (with_reducible exact spec_l2Variable.mono _ _ _)
      | (with_reducible exact LeO.refl _)
      | (with_reducible exact LeO.none _)
      | (with_reducible refine LeO.ite ?_ ?_)
      | (with_reducible refine LeO.bind ?_ (fun _ => ?_))
      | exact ih0 _ _ _
      | exact ih1 _ _ _ _
      | exact ih2 _ _ _ _ _
      | exact ih3 _ _ _ _
      | exact ih4 _ _ _ _ _
      | exact ih5 _ _ _ _ _ _
      | exact ih6 _ _ _ _ _ _ _
      | exact ih7 _ _ _ _ _ _ _
      | exact spec_l2Variable.mono _ _ _
      | exact LeO.none _
      | refine LeO.ite ?_ ?_
      | refine LeO.bind ?_ (fun _ => ?_)
    · intro y0 y1 y2 y3 y4 y5 y6
      unfold spec_l22Write.j5
      repeat' first
      | (with_reducible exact ih0 _ _ _)
      | (with_reducible exact ih1 _ _ _ _)
      | (with_reducible exact ih2 _ _ _ _ _)
      | (with_reducible exact ih3 _ _ _ _)
      | (with_reducible exact ih4 _ _ _ _ _)
      | (with_reducible exact ih5 _ _ _ _ _ _)
      | (with_reducible exact ih6 _ _ _ _ _ _ _)
      | (with_reducible exact ih7 _ _ _ _ _ _ _)
      | (with_reducible exact spec_l2Variable.mono _ _ _)
      | (with_reducible exact LeO.refl _)
      | (with_reducible exact LeO.none _)
      | (with_reducible refine LeO.ite ?_ ?_)
      | (with_reducible refine LeO.bind ?_ (fun _ => ?_))
      | exact ih0 _ _ _
      | exact ih1 _ _ _ _
      | exact ih2 _ _ _ _ _
      | exact ih3 _ _ _ _
      | exact ih4 _ _ _ _ _
      | exact ih5 _ _ _ _ _ _
      | exact ih6 _ _ _ _ _ _ _
      | exact ih7 _ _ _ _ _ _ _
      | exact spec_l2Variable.mono _ _ _
      | exact LeO.none _
      | refine LeO.ite ?_ ?_
      | refine LeO.bind ?_ (fun _ => ?_)
    · intro y0 y1 y2 y3 y4 y5 y6
      unfold spec_l22Write.j6
      repeat' first
      | (with_reducible exact ih0 _ _ _)
      | (with_reducible exact ih1 _ _ _ _)
      | (with_reducible exact ih2 _ _ _ _ _)
      | (with_reducible exact ih3 _ _ _ _)
      | (with_reducible exact ih4 _ _ _ _ _)
      | (with_reducible exact ih5 _ _ _ _ _ _)
      | (with_reducible exact ih6 _ _ _ _ _ _ _)
      | (with_reducible exact ih7 _ _ _ _ _ _ _)
      | (with_reducible exact spec_l2Variable.mono _ _ _)
      | (with_reducible exact LeO.refl _)
      | (with_reducible exact LeO.none _)
      | (with_reducible refine LeO.ite ?_ ?_)
      | (with_reducible refine LeO.bind ?_ (fun _ => ?_))
      | exact ih0 _ _ _
      | exact ih1 _ _ _ _
      | exact ih2 _ _ _ _ _
      | exact ih3 _ _ _ _
      | exact ih4 _ _ _ _ _
      | exact ih5 _ _ _ _ _ _
      | exact ih6 _ _ _ _ _ _ _
      | exact ih7 _ _ _ _ _ _ _
      | exact spec_l2Variable.mono _ _ _
      | exact LeO.none _
      | refine LeO.ite ?_ ?_
      | refine LeO.bind ?_ (fun _ => ?_)
theorem spec_l22Write.mono : ∀ a0 a1 a2 k, LeO (spec_l22Write.f k a0 a1 a2) (spec_l22Write.f (k + 1) a0 a1 a2) := by
  intro a0 a1 a2 k
  obtain ⟨ih0, ih1, ih2, ih3, ih4, ih5, ih6, ih7⟩ := spec_l22Write.mono_l k
  exact ih0 a0 a1 a2
set_option maxHeartbeats 8000000 in
set_option maxRecDepth 100000 in
theorem spec_l22Write.calls (k : Nat) : ∀ (A0 : Option Addr) (c0 : Nat) (l0 : List Int) (a1 : Int) (a2 : Int) (r : ByteArray) (w : World) (hr0 : Kd.C (Kd.int .i64) w A0 l0.length l0) (hc0 : l0.length ≤ c0) (h : spec_l22Write.f k l0 a1 a2 = some r),
    Calls Tryd.prog 8 #[.slice A0 l0.length c0, .int .i64 a1, .int .i64 a2] w fun e w' => e = .returned (.string r) ∧ Drawn0 w w' := by
  induction k using Nat.strongRecOn with
  | _ k ih =>
  intro A0 c0 l0 a1 a2 r w hr0 hc0 h
  cases k with
  | zero => exact absurd h (by simp [spec_l22Write.f])
  | succ k =>
  simp only [spec_l22Write.f] at h
  have HR0 := Aside0.mk hr0
  have HC0 := Aside0.mk hc0
  clear hr0 hc0
  have H : (if a2 = 0 then (some (⟨#[48]⟩ : ByteArray)) else ((spec_l2Full.f a1).bind fun t104 => (if a2 = t104 then (some (⟨#[49]⟩ : ByteArray)) else (spec_l22Write.l0 k l0 a1 a2 0)))) = some r := h
  clear h
  by_cases c4 : a2 = 0
  · rw [if_pos c4] at H
    have c4b0 : (a2 == 0) = true := beq_iff_eq.mpr c4
    have c4b1 : (a2 != 0) = false := bne_eq_false_iff_eq.mpr c4
    clear c4
    obtain rfl := Option.some.inj H
    go_enter Tryd.func8, Tryd.ntmps8
    go_wp2
    repeat (go_quiet (fail); try go_wp2)
    go_ret
    exact ⟨by first | rfl | (simp; done) | (simp [*]; done), by repeat (first | exact Drawn0.refl _ | apply Drawn0.step)⟩
  · rw [if_neg c4] at H
    have c4b0 : (a2 == 0) = false := beq_eq_false_iff_ne.mpr c4
    have c4b1 : (a2 != 0) = true := bne_iff_ne.mpr c4
    replace H := Option.bind_eq_some_iff.mp H
    obtain ⟨t104, A50, H⟩ := H
    replace H : (if a2 = t104 then (some (⟨#[49]⟩ : ByteArray)) else (spec_l22Write.l0 k l0 a1 a2 0)) = some r := H
    have A5 := Aside0.mk A50
    clear A50
    by_cases c6 : a2 = t104
    · rw [if_pos c6] at H
      have c6b0 : (a2 == t104) = true := beq_iff_eq.mpr c6
      have c6b1 : (a2 != t104) = false := bne_eq_false_iff_eq.mpr c6
      clear c6
      obtain rfl := Option.some.inj H
      go_enter Tryd.func8, Tryd.ntmps8
      go_wp2_with (first | (go_at_call 14; (with_reducible refine (spec_l2Full.calls a1 t104 _ A5.out).mono ?_); rintro e w' ⟨rfl, ⟨nd, rfl⟩⟩; (try first | exact ⟨rfl, _, World.drewN_drewN _ _ _⟩ | exact ⟨rfl, _, Eq.trans (World.drewN_drewN _ _ _) (congrArg (World.drewN _) (Nat.add_assoc _ _ _))⟩)))
      repeat (go_quiet (first | (go_at_call 14; (with_reducible refine (spec_l2Full.calls a1 t104 _ A5.out).mono ?_); rintro e w' ⟨rfl, ⟨nd, rfl⟩⟩; (try first | exact ⟨rfl, _, World.drewN_drewN _ _ _⟩ | exact ⟨rfl, _, Eq.trans (World.drewN_drewN _ _ _) (congrArg (World.drewN _) (Nat.add_assoc _ _ _))⟩))); try go_wp2_with (first | (go_at_call 14; (with_reducible refine (spec_l2Full.calls a1 t104 _ A5.out).mono ?_); rintro e w' ⟨rfl, ⟨nd, rfl⟩⟩; (try first | exact ⟨rfl, _, World.drewN_drewN _ _ _⟩ | exact ⟨rfl, _, Eq.trans (World.drewN_drewN _ _ _) (congrArg (World.drewN _) (Nat.add_assoc _ _ _))⟩))))
      go_ret
      exact ⟨by first | rfl | (simp; done) | (simp [*]; done), by repeat (first | exact Drawn0.refl _ | apply Drawn0.step)⟩
    · rw [if_neg c6] at H
      have c6b0 : (a2 == t104) = false := beq_eq_false_iff_ne.mpr c6
      have c6b1 : (a2 != t104) = true := bne_iff_ne.mpr c6
      have H' := Aside0.mk H
      clear H
      go_enter Tryd.func8, Tryd.ntmps8
      go_wp2_with (first | (go_at_call 14; (with_reducible refine (spec_l2Full.calls a1 t104 _ A5.out).mono ?_); rintro e w' ⟨rfl, ⟨nd, rfl⟩⟩; (try first | exact ⟨rfl, _, World.drewN_drewN _ _ _⟩ | exact ⟨rfl, _, Eq.trans (World.drewN_drewN _ _ _) (congrArg (World.drewN _) (Nat.add_assoc _ _ _))⟩)))
      repeat (go_quiet (first | (go_at_call 14; (with_reducible refine (spec_l2Full.calls a1 t104 _ A5.out).mono ?_); rintro e w' ⟨rfl, ⟨nd, rfl⟩⟩; (try first | exact ⟨rfl, _, World.drewN_drewN _ _ _⟩ | exact ⟨rfl, _, Eq.trans (World.drewN_drewN _ _ _) (congrArg (World.drewN _) (Nat.add_assoc _ _ _))⟩))); try go_wp2_with (first | (go_at_call 14; (with_reducible refine (spec_l2Full.calls a1 t104 _ A5.out).mono ?_); rintro e w' ⟨rfl, ⟨nd, rfl⟩⟩; (try first | exact ⟨rfl, _, World.drewN_drewN _ _ _⟩ | exact ⟨rfl, _, Eq.trans (World.drewN_drewN _ _ _) (congrArg (World.drewN _) (Nat.add_assoc _ _ _))⟩))))
      go_loopg [7] k (fun kq v7 w' => ∃ (x7_1 : Int), v7 = .int .i64 x7_1 ∧ Aside0 (spec_l22Write.l0 kq l0 a1 a2 x7_1 = some r) ∧ Aside0 (kq ≤ k) ∧ Drawn0 w w')
      case atStart => exact ⟨(0), (by first | rfl | (simp; done) | (simp [*]; done)), H', ⟨Nat.le_refl _⟩, by repeat (first | exact Drawn0.refl _ | apply Drawn0.step)⟩
      case round =>
        clear H'
        try clear p2
        try clear c4
        try clear c4b0
        try clear c4b1
        try clear c6
        try clear c6b0
        try clear c6b1
        obtain ⟨x7_1, rfl, HA, HK1, ⟨m1, rfl⟩⟩ := hrel
        cases gk with
        | zero => exact absurd HA.out (by simp [spec_l22Write.l0])
        | succ k1 =>
          have H := HA.out
          clear HA
          simp only [spec_l22Write.l0] at H
          have HC7 := Aside0.mk H
          clear H
          go_upto_region 6 with (fail)
          repeat (go_quiet (fail); go_upto_region 6 with (fail))
          go_cut [26] (fun v26 wc => ∃ (kq : Nat) (x26_6 : Bool), v26 = .bool x26_6 ∧ Aside0 (spec_l22Write.j1 kq l0 a1 a2 x7_1 x26_6 = some r) ∧ Aside0 (kq ≤ k1) ∧ Drawn0 w wc)
          case first =>
            have H := HC7.out
            clear HC7
            by_cases c8 : x7_1 < a1
            · rw [if_pos c8] at H
              have c8b0 : decide (x7_1 < a1) = true := decide_eq_true c8
              clear c8
              (first | rw [c8b0] | (simp only [i64_w, i32_w]; rw [c8b0]) | skip)
              by_cases c9 : 0 ≤ a2
              · rw [if_pos c9] at H
                have c9b0 : decide (0 ≤ a2) = true := decide_eq_true c9
                clear c9
                by_cases c10 : a2 < (l0.length : Int)
                · rw [if_pos c10] at H
                  have c10b0 : decide (a2 < (l0.length : Int)) = true := decide_eq_true c10
                  clear c10
                  have H' := Aside0.mk H
                  clear H
                  have p105 : 0 ≤ (a2 : Int) := of_decide_eq_true (by first | (with_reducible assumption) | assumption)
                  have q105 : a2 < (l0.length : Int) := of_decide_eq_true (by first | (with_reducible assumption) | assumption)
                  obtain ⟨ad105, e105, hx105_0⟩ := Kd.at_int HR0.out a2 p105 q105
                  cases e105
                  replace p105 := eq_true p105
                  replace q105 := eq_true q105
                  go_wp2
                  repeat (go_quiet (fail); try go_wp2)
                  go_meet
                  case rel => exact ⟨_, (((rd l0 a2) == 1)), (by first | rfl | (simp; done) | (simp [*]; done)), H', ⟨by have := HK1.out; first | omega | exact Nat.le_refl _⟩, by repeat (first | exact Drawn0.refl _ | apply Drawn0.step)⟩
                · rw [if_neg c10] at H
                  exact absurd H (by simp)
              · rw [if_neg c9] at H
                exact absurd H (by simp)
            · rw [if_neg c8] at H
              have c8b0 : decide (x7_1 < a1) = false := decide_eq_false c8
              clear c8
              (first | rw [c8b0] | (simp only [i64_w, i32_w]; rw [c8b0]) | skip)
              have H' := Aside0.mk H
              clear H
              go_wp2
              repeat (go_quiet (fail); try go_wp2)
              go_meet
              case rel => exact ⟨_, (false), (by first | rfl | (simp; done) | (simp [*]; done)), H', ⟨by have := HK1.out; first | omega | exact Nat.le_refl _⟩, by repeat (first | exact Drawn0.refl _ | apply Drawn0.step)⟩
          case rest =>
            clear HC7
            try clear c1
            try clear p1
            try clear q1
            try clear hx1
            try clear p2
            try clear c4
            try clear c4b0
            try clear c4b1
            try clear c6
            try clear c6b0
            try clear c6b1
            try clear c8
            try clear c8b0
            try clear c9
            try clear c9b0
            try clear c10
            try clear c10b0
            try clear p10
            try clear q10
            try clear hx10
            try clear hx105_0
            try clear p105
            try clear p2
            try clear q105
            obtain ⟨kq, x26_6, rfl, HA, HJ6, ⟨mc6, rfl⟩⟩ := hcut
            cases kq with
            | zero => exact absurd HA.out (by simp [spec_l22Write.j1])
            | succ kj6 =>
              have H := HA.out
              clear HA
              simp only [spec_l22Write.j1] at H
              by_cases c11 : x26_6 = true
              · subst c11
                have H1 : ((spec_l2Variable.f kj6 a1 x7_1).bind fun t106 => (if a2 = t106 then (if 0 ≤ x7_1 then (if x7_1 ≤ (wrap64 (x7_1 + 1)) then (if (wrap64 (x7_1 + 1)) ≤ 5 then (some ((⟨#[97, 98, 99, 100, 101]⟩ : ByteArray).extract (x7_1 : Int).toNat ((wrap64 (x7_1 + 1)) : Int).toNat)) else (none)) else (none)) else (none)) else ((spec_l2Full.f a1).bind fun t107 => ((spec_l2Variable.f kj6 a1 x7_1).bind fun t108 => (if a2 = (wrap64 (t107 - t108)) then (if 0 ≤ x7_1 then (if x7_1 ≤ (wrap64 (x7_1 + 1)) then (if (wrap64 (x7_1 + 1)) ≤ 5 then (if 1 + ((⟨#[97, 98, 99, 100, 101]⟩ : ByteArray).extract (x7_1 : Int).toNat ((wrap64 (x7_1 + 1)) : Int).toNat).size ≤ 9223372036854775807 then (some ((⟨#[33]⟩ : ByteArray) ++ ((⟨#[97, 98, 99, 100, 101]⟩ : ByteArray).extract (x7_1 : Int).toNat ((wrap64 (x7_1 + 1)) : Int).toNat))) else (none)) else (none)) else (none)) else (none)) else (spec_l22Write.l0 kj6 l0 a1 a2 (wrap64 (x7_1 + 1)))))))) = some r := by rw [if_pos rfl] at H; exact H
                clear H
                have H := H1
                clear H1
                replace H := Option.bind_eq_some_iff.mp H
                obtain ⟨t106, A120, H⟩ := H
                replace H : (if a2 = t106 then (if 0 ≤ x7_1 then (if x7_1 ≤ (wrap64 (x7_1 + 1)) then (if (wrap64 (x7_1 + 1)) ≤ 5 then (some ((⟨#[97, 98, 99, 100, 101]⟩ : ByteArray).extract (x7_1 : Int).toNat ((wrap64 (x7_1 + 1)) : Int).toNat)) else (none)) else (none)) else (none)) else ((spec_l2Full.f a1).bind fun t107 => ((spec_l2Variable.f kj6 a1 x7_1).bind fun t108 => (if a2 = (wrap64 (t107 - t108)) then (if 0 ≤ x7_1 then (if x7_1 ≤ (wrap64 (x7_1 + 1)) then (if (wrap64 (x7_1 + 1)) ≤ 5 then (if 1 + ((⟨#[97, 98, 99, 100, 101]⟩ : ByteArray).extract (x7_1 : Int).toNat ((wrap64 (x7_1 + 1)) : Int).toNat).size ≤ 9223372036854775807 then (some ((⟨#[33]⟩ : ByteArray) ++ ((⟨#[97, 98, 99, 100, 101]⟩ : ByteArray).extract (x7_1 : Int).toNat ((wrap64 (x7_1 + 1)) : Int).toNat))) else (none)) else (none)) else (none)) else (none)) else (spec_l22Write.l0 kj6 l0 a1 a2 (wrap64 (x7_1 + 1))))))) = some r := H
                have A12 := Aside0.mk A120
                clear A120
                by_cases c13 : a2 = t106
                · rw [if_pos c13] at H
                  have c13b0 : (a2 == t106) = true := beq_iff_eq.mpr c13
                  have c13b1 : (a2 != t106) = false := bne_eq_false_iff_eq.mpr c13
                  clear c13
                  by_cases c14 : 0 ≤ x7_1
                  · rw [if_pos c14] at H
                    have c14b0 := eq_true c14
                    have c14b1 : decide (0 ≤ x7_1) = true := decide_eq_true c14
                    clear c14
                    by_cases c15 : x7_1 ≤ (wrap64 (x7_1 + 1))
                    · rw [if_pos c15] at H
                      have c15b0 := eq_true c15
                      have c15b1 : decide (x7_1 ≤ (wrap64 (x7_1 + 1))) = true := decide_eq_true c15
                      by_cases c16 : (wrap64 (x7_1 + 1)) ≤ 5
                      · rw [if_pos c16] at H
                        have c16b0 := eq_true c16
                        have c16b1 : decide ((wrap64 (x7_1 + 1)) ≤ 5) = true := decide_eq_true c16
                        obtain rfl := Option.some.inj H
                        go_wp2_with (first | (go_at_call 15; (with_reducible refine (spec_l2Variable.calls kj6 a1 x7_1 t106 _ A12.out).mono ?_); rintro e w' ⟨rfl, ⟨nd, rfl⟩⟩; (try first | exact ⟨rfl, _, World.drewN_drewN _ _ _⟩ | exact ⟨rfl, _, Eq.trans (World.drewN_drewN _ _ _) (congrArg (World.drewN _) (Nat.add_assoc _ _ _))⟩)))
                        repeat (go_quiet (first | (go_at_call 15; (with_reducible refine (spec_l2Variable.calls kj6 a1 x7_1 t106 _ A12.out).mono ?_); rintro e w' ⟨rfl, ⟨nd, rfl⟩⟩; (try first | exact ⟨rfl, _, World.drewN_drewN _ _ _⟩ | exact ⟨rfl, _, Eq.trans (World.drewN_drewN _ _ _) (congrArg (World.drewN _) (Nat.add_assoc _ _ _))⟩))); try go_wp2_with (first | (go_at_call 15; (with_reducible refine (spec_l2Variable.calls kj6 a1 x7_1 t106 _ A12.out).mono ?_); rintro e w' ⟨rfl, ⟨nd, rfl⟩⟩; (try first | exact ⟨rfl, _, World.drewN_drewN _ _ _⟩ | exact ⟨rfl, _, Eq.trans (World.drewN_drewN _ _ _) (congrArg (World.drewN _) (Nat.add_assoc _ _ _))⟩))))
                        go_ret
                        exact ⟨by first | rfl | (simp; done) | (simp [*]; done), by repeat (first | exact Drawn0.refl _ | apply Drawn0.step)⟩
                      · rw [if_neg c16] at H
                        exact absurd H (by simp)
                    · rw [if_neg c15] at H
                      exact absurd H (by simp)
                  · rw [if_neg c14] at H
                    exact absurd H (by simp)
                · rw [if_neg c13] at H
                  have c13b0 : (a2 == t106) = false := beq_eq_false_iff_ne.mpr c13
                  have c13b1 : (a2 != t106) = true := bne_iff_ne.mpr c13
                  replace H := Option.bind_eq_some_iff.mp H
                  obtain ⟨t107, A170, H⟩ := H
                  replace H : ((spec_l2Variable.f kj6 a1 x7_1).bind fun t108 => (if a2 = (wrap64 (t107 - t108)) then (if 0 ≤ x7_1 then (if x7_1 ≤ (wrap64 (x7_1 + 1)) then (if (wrap64 (x7_1 + 1)) ≤ 5 then (if 1 + ((⟨#[97, 98, 99, 100, 101]⟩ : ByteArray).extract (x7_1 : Int).toNat ((wrap64 (x7_1 + 1)) : Int).toNat).size ≤ 9223372036854775807 then (some ((⟨#[33]⟩ : ByteArray) ++ ((⟨#[97, 98, 99, 100, 101]⟩ : ByteArray).extract (x7_1 : Int).toNat ((wrap64 (x7_1 + 1)) : Int).toNat))) else (none)) else (none)) else (none)) else (none)) else (spec_l22Write.l0 kj6 l0 a1 a2 (wrap64 (x7_1 + 1))))) = some r := H
                  have A17 := Aside0.mk A170
                  clear A170
                  replace H := Option.bind_eq_some_iff.mp H
                  obtain ⟨t108, A180, H⟩ := H
                  have A18q : t106 = t108 := Option.some.inj (A12.out.symm.trans A180)
                  subst A18q
                  clear A180
                  replace H : (if a2 = (wrap64 (t107 - t106)) then (if 0 ≤ x7_1 then (if x7_1 ≤ (wrap64 (x7_1 + 1)) then (if (wrap64 (x7_1 + 1)) ≤ 5 then (if 1 + ((⟨#[97, 98, 99, 100, 101]⟩ : ByteArray).extract (x7_1 : Int).toNat ((wrap64 (x7_1 + 1)) : Int).toNat).size ≤ 9223372036854775807 then (some ((⟨#[33]⟩ : ByteArray) ++ ((⟨#[97, 98, 99, 100, 101]⟩ : ByteArray).extract (x7_1 : Int).toNat ((wrap64 (x7_1 + 1)) : Int).toNat))) else (none)) else (none)) else (none)) else (none)) else (spec_l22Write.l0 kj6 l0 a1 a2 (wrap64 (x7_1 + 1)))) = some r := H
                  by_cases c19 : a2 = (wrap64 (t107 - t106))
                  · rw [if_pos c19] at H
                    have c19b0 : (a2 == (wrap64 (t107 - t106))) = true := beq_iff_eq.mpr c19
                    have c19b1 : (a2 != (wrap64 (t107 - t106))) = false := bne_eq_false_iff_eq.mpr c19
                    clear c19
                    by_cases c20 : 0 ≤ x7_1
                    · rw [if_pos c20] at H
                      have c20b0 := eq_true c20
                      have c20b1 : decide (0 ≤ x7_1) = true := decide_eq_true c20
                      clear c20
                      by_cases c21 : x7_1 ≤ (wrap64 (x7_1 + 1))
                      · rw [if_pos c21] at H
                        have c21b0 := eq_true c21
                        have c21b1 : decide (x7_1 ≤ (wrap64 (x7_1 + 1))) = true := decide_eq_true c21
                        by_cases c22 : (wrap64 (x7_1 + 1)) ≤ 5
                        · rw [if_pos c22] at H
                          have c22b0 := eq_true c22
                          have c22b1 : decide ((wrap64 (x7_1 + 1)) ≤ 5) = true := decide_eq_true c22
                          by_cases c23 : 1 + ((⟨#[97, 98, 99, 100, 101]⟩ : ByteArray).extract (x7_1 : Int).toNat ((wrap64 (x7_1 + 1)) : Int).toNat).size ≤ 9223372036854775807
                          · rw [if_pos c23] at H
                            have c23b0 := eq_true c23
                            have c23b1 : decide (1 + ((⟨#[97, 98, 99, 100, 101]⟩ : ByteArray).extract (x7_1 : Int).toNat ((wrap64 (x7_1 + 1)) : Int).toNat).size ≤ 9223372036854775807) = true := decide_eq_true c23
                            try have c23b2 : (9223372036854775807 < 1 + ((⟨#[97, 98, 99, 100, 101]⟩ : ByteArray).extract (x7_1 : Int).toNat ((wrap64 (x7_1 + 1)) : Int).toNat).size) = False := eq_false (Nat.not_lt.2 c23)
                            obtain rfl := Option.some.inj H
                            go_wp2_with (first | (go_at_call 15; (with_reducible refine (spec_l2Variable.calls kj6 a1 x7_1 t106 _ A12.out).mono ?_); rintro e w' ⟨rfl, ⟨nd, rfl⟩⟩; (try first | exact ⟨rfl, _, World.drewN_drewN _ _ _⟩ | exact ⟨rfl, _, Eq.trans (World.drewN_drewN _ _ _) (congrArg (World.drewN _) (Nat.add_assoc _ _ _))⟩)) | (go_at_call 14; (with_reducible refine (spec_l2Full.calls a1 t107 _ A17.out).mono ?_); rintro e w' ⟨rfl, ⟨nd, rfl⟩⟩; (try first | exact ⟨rfl, _, World.drewN_drewN _ _ _⟩ | exact ⟨rfl, _, Eq.trans (World.drewN_drewN _ _ _) (congrArg (World.drewN _) (Nat.add_assoc _ _ _))⟩)))
                            repeat (go_quiet (first | (go_at_call 15; (with_reducible refine (spec_l2Variable.calls kj6 a1 x7_1 t106 _ A12.out).mono ?_); rintro e w' ⟨rfl, ⟨nd, rfl⟩⟩; (try first | exact ⟨rfl, _, World.drewN_drewN _ _ _⟩ | exact ⟨rfl, _, Eq.trans (World.drewN_drewN _ _ _) (congrArg (World.drewN _) (Nat.add_assoc _ _ _))⟩)) | (go_at_call 14; (with_reducible refine (spec_l2Full.calls a1 t107 _ A17.out).mono ?_); rintro e w' ⟨rfl, ⟨nd, rfl⟩⟩; (try first | exact ⟨rfl, _, World.drewN_drewN _ _ _⟩ | exact ⟨rfl, _, Eq.trans (World.drewN_drewN _ _ _) (congrArg (World.drewN _) (Nat.add_assoc _ _ _))⟩))); try go_wp2_with (first | (go_at_call 15; (with_reducible refine (spec_l2Variable.calls kj6 a1 x7_1 t106 _ A12.out).mono ?_); rintro e w' ⟨rfl, ⟨nd, rfl⟩⟩; (try first | exact ⟨rfl, _, World.drewN_drewN _ _ _⟩ | exact ⟨rfl, _, Eq.trans (World.drewN_drewN _ _ _) (congrArg (World.drewN _) (Nat.add_assoc _ _ _))⟩)) | (go_at_call 14; (with_reducible refine (spec_l2Full.calls a1 t107 _ A17.out).mono ?_); rintro e w' ⟨rfl, ⟨nd, rfl⟩⟩; (try first | exact ⟨rfl, _, World.drewN_drewN _ _ _⟩ | exact ⟨rfl, _, Eq.trans (World.drewN_drewN _ _ _) (congrArg (World.drewN _) (Nat.add_assoc _ _ _))⟩))))
                            go_ret
                            exact ⟨by first | rfl | (simp; done) | (simp [*]; done), by repeat (first | exact Drawn0.refl _ | apply Drawn0.step)⟩
                          · rw [if_neg c23] at H
                            exact absurd H (by simp)
                        · rw [if_neg c22] at H
                          exact absurd H (by simp)
                      · rw [if_neg c21] at H
                        exact absurd H (by simp)
                    · rw [if_neg c20] at H
                      exact absurd H (by simp)
                  · rw [if_neg c19] at H
                    have c19b0 : (a2 == (wrap64 (t107 - t106))) = false := beq_eq_false_iff_ne.mpr c19
                    have c19b1 : (a2 != (wrap64 (t107 - t106))) = true := bne_iff_ne.mpr c19
                    have H' := Aside0.mk H
                    clear H
                    go_wp2_with (first | (go_at_call 15; (with_reducible refine (spec_l2Variable.calls kj6 a1 x7_1 t106 _ A12.out).mono ?_); rintro e w' ⟨rfl, ⟨nd, rfl⟩⟩; (try first | exact ⟨rfl, _, World.drewN_drewN _ _ _⟩ | exact ⟨rfl, _, Eq.trans (World.drewN_drewN _ _ _) (congrArg (World.drewN _) (Nat.add_assoc _ _ _))⟩)) | (go_at_call 14; (with_reducible refine (spec_l2Full.calls a1 t107 _ A17.out).mono ?_); rintro e w' ⟨rfl, ⟨nd, rfl⟩⟩; (try first | exact ⟨rfl, _, World.drewN_drewN _ _ _⟩ | exact ⟨rfl, _, Eq.trans (World.drewN_drewN _ _ _) (congrArg (World.drewN _) (Nat.add_assoc _ _ _))⟩)))
                    repeat (go_quiet (first | (go_at_call 15; (with_reducible refine (spec_l2Variable.calls kj6 a1 x7_1 t106 _ A12.out).mono ?_); rintro e w' ⟨rfl, ⟨nd, rfl⟩⟩; (try first | exact ⟨rfl, _, World.drewN_drewN _ _ _⟩ | exact ⟨rfl, _, Eq.trans (World.drewN_drewN _ _ _) (congrArg (World.drewN _) (Nat.add_assoc _ _ _))⟩)) | (go_at_call 14; (with_reducible refine (spec_l2Full.calls a1 t107 _ A17.out).mono ?_); rintro e w' ⟨rfl, ⟨nd, rfl⟩⟩; (try first | exact ⟨rfl, _, World.drewN_drewN _ _ _⟩ | exact ⟨rfl, _, Eq.trans (World.drewN_drewN _ _ _) (congrArg (World.drewN _) (Nat.add_assoc _ _ _))⟩))); try go_wp2_with (first | (go_at_call 15; (with_reducible refine (spec_l2Variable.calls kj6 a1 x7_1 t106 _ A12.out).mono ?_); rintro e w' ⟨rfl, ⟨nd, rfl⟩⟩; (try first | exact ⟨rfl, _, World.drewN_drewN _ _ _⟩ | exact ⟨rfl, _, Eq.trans (World.drewN_drewN _ _ _) (congrArg (World.drewN _) (Nat.add_assoc _ _ _))⟩)) | (go_at_call 14; (with_reducible refine (spec_l2Full.calls a1 t107 _ A17.out).mono ?_); rintro e w' ⟨rfl, ⟨nd, rfl⟩⟩; (try first | exact ⟨rfl, _, World.drewN_drewN _ _ _⟩ | exact ⟨rfl, _, Eq.trans (World.drewN_drewN _ _ _) (congrArg (World.drewN _) (Nat.add_assoc _ _ _))⟩))))
                    go_roundg kj6
                    case measure => have := HK1.out; have := HJ6.out; omega
                    case rel => exact ⟨(wrap64 (x7_1 + 1)), (by first | rfl | (simp; done) | (simp [*]; done)), H', ⟨by have := HK1.out; have := HJ6.out; omega⟩, by repeat (first | exact Drawn0.refl _ | apply Drawn0.step)⟩
              · replace c11 := Bool.eq_false_iff.mpr c11
                subst c11
                have H1 : (spec_l22Write.l1 kj6 l0 a1 a2 0) = some r := by rw [if_neg (show ¬ (false = true) by decide)] at H; exact H
                clear H
                have H := H1
                clear H1
                have H' := Aside0.mk H
                clear H
                go_wp2
                repeat (go_quiet (fail); try go_wp2)
                go_loopg [8] kj6 (fun kq v8 w' => ∃ (x8_3 : Int), v8 = .int .i64 x8_3 ∧ Aside0 (spec_l22Write.l1 kq l0 a1 a2 x8_3 = some r) ∧ Aside0 (kq ≤ kj6) ∧ Drawn0 w w')
                case atStart => exact ⟨(0), (by first | rfl | (simp; done) | (simp [*]; done)), H', ⟨Nat.le_refl _⟩, by repeat (first | exact Drawn0.refl _ | apply Drawn0.step)⟩
                case round =>
                  clear H'
                  try clear c1
                  try clear p1
                  try clear q1
                  try clear hx1
                  try clear c2
                  try clear p2
                  try clear c4
                  try clear c4b0
                  try clear c4b1
                  try clear c6
                  try clear c6b0
                  try clear c6b1
                  try clear p6
                  try clear c8
                  try clear c8b0
                  try clear c9
                  try clear c9b0
                  try clear c10
                  try clear c10b0
                  try clear p10
                  try clear q10
                  try clear hx10
                  try clear c11
                  try clear c13
                  try clear c13b0
                  try clear c13b1
                  try clear c14
                  try clear c14b0
                  try clear c14b1
                  try clear c15
                  try clear c15b0
                  try clear c15b1
                  try clear c16
                  try clear c16b0
                  try clear c16b1
                  try clear c19
                  try clear c19b0
                  try clear c19b1
                  try clear c20
                  try clear c20b0
                  try clear c20b1
                  try clear c21
                  try clear c21b0
                  try clear c21b1
                  try clear c22
                  try clear c22b0
                  try clear c22b1
                  try clear c23
                  try clear c23b0
                  try clear c23b1
                  try clear c23b2
                  try clear hx105_0
                  try clear p1
                  try clear p10
                  try clear p105
                  try clear p2
                  try clear q1
                  try clear q10
                  try clear q105
                  obtain ⟨x8_3, rfl, HA, HK3, ⟨m3, rfl⟩⟩ := hrel
                  cases gk with
                  | zero => exact absurd HA.out (by simp [spec_l22Write.l1])
                  | succ k3 =>
                    have H := HA.out
                    clear HA
                    simp only [spec_l22Write.l1] at H
                    by_cases c24 : x8_3 < 2
                    · rw [if_pos c24] at H
                      have c24b0 : decide (x8_3 < 2) = true := decide_eq_true c24
                      clear c24
                      have H' := Aside0.mk H
                      clear H
                      go_wp2
                      repeat (go_quiet (fail); try go_wp2)
                      go_loopg [9] k3 (fun kq v9 w' => ∃ (x9_4 : Int), v9 = .int .i64 x9_4 ∧ Aside0 (spec_l22Write.l2 kq l0 a1 a2 x8_3 x9_4 = some r) ∧ Aside0 (kq ≤ k3) ∧ Drawn0 w w')
                      case atStart => exact ⟨(1), (by first | rfl | (simp; done) | (simp [*]; done)), H', ⟨Nat.le_refl _⟩, by repeat (first | exact Drawn0.refl _ | apply Drawn0.step)⟩
                      case round =>
                        clear H'
                        try clear c1
                        try clear p1
                        try clear q1
                        try clear hx1
                        try clear c2
                        try clear p2
                        try clear c4
                        try clear c4b0
                        try clear c4b1
                        try clear c6
                        try clear c6b0
                        try clear c6b1
                        try clear p6
                        try clear c8
                        try clear c8b0
                        try clear c9
                        try clear c9b0
                        try clear c10
                        try clear c10b0
                        try clear p10
                        try clear q10
                        try clear hx10
                        try clear c11
                        try clear c13
                        try clear c13b0
                        try clear c13b1
                        try clear c14
                        try clear c14b0
                        try clear c14b1
                        try clear c15
                        try clear c15b0
                        try clear c15b1
                        try clear c16
                        try clear c16b0
                        try clear c16b1
                        try clear c19
                        try clear c19b0
                        try clear c19b1
                        try clear c20
                        try clear c20b0
                        try clear c20b1
                        try clear c21
                        try clear c21b0
                        try clear c21b1
                        try clear c22
                        try clear c22b0
                        try clear c22b1
                        try clear c23
                        try clear c23b0
                        try clear c23b1
                        try clear c23b2
                        try clear c24
                        try clear c24b0
                        try clear hx105_0
                        try clear p1
                        try clear p10
                        try clear p105
                        try clear p2
                        try clear p6
                        try clear q1
                        try clear q10
                        try clear q105
                        obtain ⟨x9_4, rfl, HA, HK4, ⟨m4, rfl⟩⟩ := hrel
                        cases gk with
                        | zero => exact absurd HA.out (by simp [spec_l22Write.l2])
                        | succ k4 =>
                          have H := HA.out
                          clear HA
                          simp only [spec_l22Write.l2] at H
                          replace H := Option.bind_eq_some_iff.mp H
                          obtain ⟨t109, A250, H⟩ := H
                          replace H : (if x9_4 < t109 then (if 0 ≤ x9_4 then (if x9_4 < (l0.length : Int) then (if 0 ≤ a2 then (if a2 < (l0.length : Int) then (if (rd l0 x9_4) ≥ (rd l0 a2) then (spec_l22Write.l2 k4 l0 a1 a2 x8_3 (wrap64 (x9_4 + 1))) else (spec_l22Write.l3 k4 l0 a1 a2 x8_3 x9_4 1)) else (none)) else (none)) else (none)) else (none)) else (spec_l22Write.l1 k4 l0 a1 a2 (wrap64 (x8_3 + 1)))) = some r := H
                          have A25 := Aside0.mk A250
                          clear A250
                          by_cases c26 : x9_4 < t109
                          · rw [if_pos c26] at H
                            have c26b0 : decide (x9_4 < t109) = true := decide_eq_true c26
                            clear c26
                            by_cases c27 : 0 ≤ x9_4
                            · rw [if_pos c27] at H
                              have c27b0 : decide (0 ≤ x9_4) = true := decide_eq_true c27
                              clear c27
                              by_cases c28 : x9_4 < (l0.length : Int)
                              · rw [if_pos c28] at H
                                have c28b0 : decide (x9_4 < (l0.length : Int)) = true := decide_eq_true c28
                                clear c28
                                by_cases c29 : 0 ≤ a2
                                · rw [if_pos c29] at H
                                  have c29b0 : decide (0 ≤ a2) = true := decide_eq_true c29
                                  clear c29
                                  by_cases c30 : a2 < (l0.length : Int)
                                  · rw [if_pos c30] at H
                                    have c30b0 : decide (a2 < (l0.length : Int)) = true := decide_eq_true c30
                                    clear c30
                                    by_cases c31 : (rd l0 x9_4) ≥ (rd l0 a2)
                                    · rw [if_pos c31] at H
                                      have c31b0 : decide ((rd l0 a2) ≤ (rd l0 x9_4)) = true := decide_eq_true c31
                                      clear c31
                                      have H' := Aside0.mk H
                                      clear H
                                      go_wp2_with (first | (go_at_call 14; (with_reducible refine (spec_l2Full.calls a1 t109 _ A25.out).mono ?_); rintro e w' ⟨rfl, ⟨nd, rfl⟩⟩; (try first | exact ⟨rfl, _, World.drewN_drewN _ _ _⟩ | exact ⟨rfl, _, Eq.trans (World.drewN_drewN _ _ _) (congrArg (World.drewN _) (Nat.add_assoc _ _ _))⟩); (try (have p110 : 0 ≤ (x9_4 : Int) := of_decide_eq_true (by first | (with_reducible assumption) | assumption); have q110 : x9_4 < (l0.length : Int) := of_decide_eq_true (by first | (with_reducible assumption) | assumption); obtain ⟨ad110, e110, hx110_0⟩ := Kd.at_int HR0.out x9_4 p110 q110; cases e110; replace p110 := eq_true p110; replace q110 := eq_true q110; have p111 : 0 ≤ (a2 : Int) := of_decide_eq_true (by first | (with_reducible assumption) | assumption); have q111 : a2 < (l0.length : Int) := of_decide_eq_true (by first | (with_reducible assumption) | assumption); obtain ⟨ad111, e111, hx111_0⟩ := Kd.at_int HR0.out a2 p111 q111; obtain rfl : ad110 = ad111 := (by injection e111); replace p111 := eq_true p111; replace q111 := eq_true q111))))
                                      repeat (go_quiet (first | (go_at_call 14; (with_reducible refine (spec_l2Full.calls a1 t109 _ A25.out).mono ?_); rintro e w' ⟨rfl, ⟨nd, rfl⟩⟩; (try first | exact ⟨rfl, _, World.drewN_drewN _ _ _⟩ | exact ⟨rfl, _, Eq.trans (World.drewN_drewN _ _ _) (congrArg (World.drewN _) (Nat.add_assoc _ _ _))⟩); (try (have p110 : 0 ≤ (x9_4 : Int) := of_decide_eq_true (by first | (with_reducible assumption) | assumption); have q110 : x9_4 < (l0.length : Int) := of_decide_eq_true (by first | (with_reducible assumption) | assumption); obtain ⟨ad110, e110, hx110_0⟩ := Kd.at_int HR0.out x9_4 p110 q110; cases e110; replace p110 := eq_true p110; replace q110 := eq_true q110; have p111 : 0 ≤ (a2 : Int) := of_decide_eq_true (by first | (with_reducible assumption) | assumption); have q111 : a2 < (l0.length : Int) := of_decide_eq_true (by first | (with_reducible assumption) | assumption); obtain ⟨ad111, e111, hx111_0⟩ := Kd.at_int HR0.out a2 p111 q111; obtain rfl : ad110 = ad111 := (by injection e111); replace p111 := eq_true p111; replace q111 := eq_true q111)))); try go_wp2_with (first | (go_at_call 14; (with_reducible refine (spec_l2Full.calls a1 t109 _ A25.out).mono ?_); rintro e w' ⟨rfl, ⟨nd, rfl⟩⟩; (try first | exact ⟨rfl, _, World.drewN_drewN _ _ _⟩ | exact ⟨rfl, _, Eq.trans (World.drewN_drewN _ _ _) (congrArg (World.drewN _) (Nat.add_assoc _ _ _))⟩); (try (have p110 : 0 ≤ (x9_4 : Int) := of_decide_eq_true (by first | (with_reducible assumption) | assumption); have q110 : x9_4 < (l0.length : Int) := of_decide_eq_true (by first | (with_reducible assumption) | assumption); obtain ⟨ad110, e110, hx110_0⟩ := Kd.at_int HR0.out x9_4 p110 q110; cases e110; replace p110 := eq_true p110; replace q110 := eq_true q110; have p111 : 0 ≤ (a2 : Int) := of_decide_eq_true (by first | (with_reducible assumption) | assumption); have q111 : a2 < (l0.length : Int) := of_decide_eq_true (by first | (with_reducible assumption) | assumption); obtain ⟨ad111, e111, hx111_0⟩ := Kd.at_int HR0.out a2 p111 q111; obtain rfl : ad110 = ad111 := (by injection e111); replace p111 := eq_true p111; replace q111 := eq_true q111)))))
                                      go_roundg k4
                                      case measure => have := HK1.out; have := HJ6.out; have := HK3.out; have := HK4.out; omega
                                      case rel => exact ⟨(wrap64 (x9_4 + 1)), (by first | rfl | (simp; done) | (simp [*]; done)), H', ⟨by have := HK1.out; have := HJ6.out; have := HK3.out; have := HK4.out; omega⟩, by repeat (first | exact Drawn0.refl _ | apply Drawn0.step)⟩
                                    · rw [if_neg c31] at H
                                      have c31b0 : decide ((rd l0 a2) ≤ (rd l0 x9_4)) = false := decide_eq_false c31
                                      clear c31
                                      have H' := Aside0.mk H
                                      clear H
                                      go_wp2_with (first | (go_at_call 14; (with_reducible refine (spec_l2Full.calls a1 t109 _ A25.out).mono ?_); rintro e w' ⟨rfl, ⟨nd, rfl⟩⟩; (try first | exact ⟨rfl, _, World.drewN_drewN _ _ _⟩ | exact ⟨rfl, _, Eq.trans (World.drewN_drewN _ _ _) (congrArg (World.drewN _) (Nat.add_assoc _ _ _))⟩); (try (have p110 : 0 ≤ (x9_4 : Int) := of_decide_eq_true (by first | (with_reducible assumption) | assumption); have q110 : x9_4 < (l0.length : Int) := of_decide_eq_true (by first | (with_reducible assumption) | assumption); obtain ⟨ad110, e110, hx110_0⟩ := Kd.at_int HR0.out x9_4 p110 q110; cases e110; replace p110 := eq_true p110; replace q110 := eq_true q110; have p111 : 0 ≤ (a2 : Int) := of_decide_eq_true (by first | (with_reducible assumption) | assumption); have q111 : a2 < (l0.length : Int) := of_decide_eq_true (by first | (with_reducible assumption) | assumption); obtain ⟨ad111, e111, hx111_0⟩ := Kd.at_int HR0.out a2 p111 q111; obtain rfl : ad110 = ad111 := (by injection e111); replace p111 := eq_true p111; replace q111 := eq_true q111))))
                                      repeat (go_quiet (first | (go_at_call 14; (with_reducible refine (spec_l2Full.calls a1 t109 _ A25.out).mono ?_); rintro e w' ⟨rfl, ⟨nd, rfl⟩⟩; (try first | exact ⟨rfl, _, World.drewN_drewN _ _ _⟩ | exact ⟨rfl, _, Eq.trans (World.drewN_drewN _ _ _) (congrArg (World.drewN _) (Nat.add_assoc _ _ _))⟩); (try (have p110 : 0 ≤ (x9_4 : Int) := of_decide_eq_true (by first | (with_reducible assumption) | assumption); have q110 : x9_4 < (l0.length : Int) := of_decide_eq_true (by first | (with_reducible assumption) | assumption); obtain ⟨ad110, e110, hx110_0⟩ := Kd.at_int HR0.out x9_4 p110 q110; cases e110; replace p110 := eq_true p110; replace q110 := eq_true q110; have p111 : 0 ≤ (a2 : Int) := of_decide_eq_true (by first | (with_reducible assumption) | assumption); have q111 : a2 < (l0.length : Int) := of_decide_eq_true (by first | (with_reducible assumption) | assumption); obtain ⟨ad111, e111, hx111_0⟩ := Kd.at_int HR0.out a2 p111 q111; obtain rfl : ad110 = ad111 := (by injection e111); replace p111 := eq_true p111; replace q111 := eq_true q111)))); try go_wp2_with (first | (go_at_call 14; (with_reducible refine (spec_l2Full.calls a1 t109 _ A25.out).mono ?_); rintro e w' ⟨rfl, ⟨nd, rfl⟩⟩; (try first | exact ⟨rfl, _, World.drewN_drewN _ _ _⟩ | exact ⟨rfl, _, Eq.trans (World.drewN_drewN _ _ _) (congrArg (World.drewN _) (Nat.add_assoc _ _ _))⟩); (try (have p110 : 0 ≤ (x9_4 : Int) := of_decide_eq_true (by first | (with_reducible assumption) | assumption); have q110 : x9_4 < (l0.length : Int) := of_decide_eq_true (by first | (with_reducible assumption) | assumption); obtain ⟨ad110, e110, hx110_0⟩ := Kd.at_int HR0.out x9_4 p110 q110; cases e110; replace p110 := eq_true p110; replace q110 := eq_true q110; have p111 : 0 ≤ (a2 : Int) := of_decide_eq_true (by first | (with_reducible assumption) | assumption); have q111 : a2 < (l0.length : Int) := of_decide_eq_true (by first | (with_reducible assumption) | assumption); obtain ⟨ad111, e111, hx111_0⟩ := Kd.at_int HR0.out a2 p111 q111; obtain rfl : ad110 = ad111 := (by injection e111); replace p111 := eq_true p111; replace q111 := eq_true q111)))))
                                      go_loopg [10] k4 (fun kq v10 w' => ∃ (x10_5 : Int), v10 = .int .i64 x10_5 ∧ Aside0 (spec_l22Write.l3 kq l0 a1 a2 x8_3 x9_4 x10_5 = some r) ∧ Aside0 (kq ≤ k4) ∧ Drawn0 w w')
                                      case atStart => exact ⟨(1), (by first | rfl | (simp; done) | (simp [*]; done)), H', ⟨Nat.le_refl _⟩, by repeat (first | exact Drawn0.refl _ | apply Drawn0.step)⟩
                                      case round =>
                                        clear H'
                                        try clear c1
                                        try clear p1
                                        try clear q1
                                        try clear hx1
                                        try clear c2
                                        try clear p2
                                        try clear c3
                                        try clear c4
                                        try clear c4b0
                                        try clear c4b1
                                        try clear c6
                                        try clear c6b0
                                        try clear c6b1
                                        try clear p6
                                        try clear c8
                                        try clear c8b0
                                        try clear c9
                                        try clear c9b0
                                        try clear c10
                                        try clear c10b0
                                        try clear p10
                                        try clear q10
                                        try clear hx10
                                        try clear c11
                                        try clear p11
                                        try clear q11
                                        try clear hx11
                                        try clear c13
                                        try clear c13b0
                                        try clear c13b1
                                        try clear c14
                                        try clear c14b0
                                        try clear c14b1
                                        try clear c15
                                        try clear c15b0
                                        try clear c15b1
                                        try clear c16
                                        try clear c16b0
                                        try clear c16b1
                                        try clear c19
                                        try clear c19b0
                                        try clear c19b1
                                        try clear c20
                                        try clear c20b0
                                        try clear c20b1
                                        try clear c21
                                        try clear c21b0
                                        try clear c21b1
                                        try clear c22
                                        try clear c22b0
                                        try clear c22b1
                                        try clear c23
                                        try clear c23b0
                                        try clear c23b1
                                        try clear c23b2
                                        try clear c24
                                        try clear c24b0
                                        try clear c26
                                        try clear c26b0
                                        try clear c27
                                        try clear c27b0
                                        try clear c28
                                        try clear c28b0
                                        try clear c29
                                        try clear c29b0
                                        try clear c30
                                        try clear c30b0
                                        try clear c31
                                        try clear c31b0
                                        try clear hx105_0
                                        try clear hx110_0
                                        try clear hx111_0
                                        try clear p1
                                        try clear p10
                                        try clear p105
                                        try clear p110
                                        try clear p111
                                        try clear p2
                                        try clear p6
                                        try clear q1
                                        try clear q10
                                        try clear q105
                                        try clear q110
                                        try clear q111
                                        obtain ⟨x10_5, rfl, HA, HK5, ⟨m5, rfl⟩⟩ := hrel
                                        cases gk with
                                        | zero => exact absurd HA.out (by simp [spec_l22Write.l3])
                                        | succ k5 =>
                                          have H := HA.out
                                          clear HA
                                          simp only [spec_l22Write.l3] at H
                                          replace H := Option.bind_eq_some_iff.mp H
                                          obtain ⟨t112, A320, H⟩ := H
                                          replace H : (if x10_5 < t112 then (if 0 ≤ x9_4 then (if x9_4 < (l0.length : Int) then (if 0 ≤ x10_5 then (if x10_5 < (l0.length : Int) then (if 0 ≤ a2 then (if a2 < (l0.length : Int) then (if (wrap64 ((rd l0 x9_4) + (rd l0 x10_5))) = (rd l0 a2) then (if x8_3 = 0 then (spec_l22Write.j5 k5 l0 a1 a2 x8_3 x9_4 x10_5 ((Go.bits .and .i64 x9_4 x10_5) == a2)) else (spec_l22Write.j5 k5 l0 a1 a2 x8_3 x9_4 x10_5 false)) else (spec_l22Write.l3 k5 l0 a1 a2 x8_3 x9_4 (wrap64 (x10_5 + 1)))) else (none)) else (none)) else (none)) else (none)) else (none)) else (none)) else (spec_l22Write.l2 k5 l0 a1 a2 x8_3 (wrap64 (x9_4 + 1)))) = some r := H
                                          have A32 := Aside0.mk A320
                                          clear A320
                                          by_cases c33 : x10_5 < t112
                                          · rw [if_pos c33] at H
                                            have c33b0 : decide (x10_5 < t112) = true := decide_eq_true c33
                                            clear c33
                                            by_cases c34 : 0 ≤ x9_4
                                            · rw [if_pos c34] at H
                                              have c34b0 : decide (0 ≤ x9_4) = true := decide_eq_true c34
                                              clear c34
                                              by_cases c35 : x9_4 < (l0.length : Int)
                                              · rw [if_pos c35] at H
                                                have c35b0 : decide (x9_4 < (l0.length : Int)) = true := decide_eq_true c35
                                                clear c35
                                                by_cases c36 : 0 ≤ x10_5
                                                · rw [if_pos c36] at H
                                                  have c36b0 : decide (0 ≤ x10_5) = true := decide_eq_true c36
                                                  clear c36
                                                  by_cases c37 : x10_5 < (l0.length : Int)
                                                  · rw [if_pos c37] at H
                                                    have c37b0 : decide (x10_5 < (l0.length : Int)) = true := decide_eq_true c37
                                                    clear c37
                                                    by_cases c38 : 0 ≤ a2
                                                    · rw [if_pos c38] at H
                                                      have c38b0 : decide (0 ≤ a2) = true := decide_eq_true c38
                                                      clear c38
                                                      by_cases c39 : a2 < (l0.length : Int)
                                                      · rw [if_pos c39] at H
                                                        have c39b0 : decide (a2 < (l0.length : Int)) = true := decide_eq_true c39
                                                        clear c39
                                                        by_cases c40 : (wrap64 ((rd l0 x9_4) + (rd l0 x10_5))) = (rd l0 a2)
                                                        · rw [if_pos c40] at H
                                                          have c40b0 : ((wrap64 ((rd l0 x9_4) + (rd l0 x10_5))) == (rd l0 a2)) = true := beq_iff_eq.mpr c40
                                                          have c40b1 : ((wrap64 ((rd l0 x9_4) + (rd l0 x10_5))) != (rd l0 a2)) = false := bne_eq_false_iff_eq.mpr c40
                                                          clear c40
                                                          have HC41 := Aside0.mk H
                                                          clear H
                                                          go_upto_region 23 with (first | (go_at_call 14; (with_reducible refine (spec_l2Full.calls a1 t112 _ A32.out).mono ?_); rintro e w' ⟨rfl, ⟨nd, rfl⟩⟩; (try first | exact ⟨rfl, _, World.drewN_drewN _ _ _⟩ | exact ⟨rfl, _, Eq.trans (World.drewN_drewN _ _ _) (congrArg (World.drewN _) (Nat.add_assoc _ _ _))⟩); have p113 : 0 ≤ (x9_4 : Int) := of_decide_eq_true (by first | (with_reducible assumption) | assumption); have q113 : x9_4 < (l0.length : Int) := of_decide_eq_true (by first | (with_reducible assumption) | assumption); obtain ⟨ad113, e113, hx113_0⟩ := Kd.at_int HR0.out x9_4 p113 q113; obtain rfl : ad110 = ad113 := (by injection e113); replace p113 := eq_true p113; replace q113 := eq_true q113; have p114 : 0 ≤ (x10_5 : Int) := of_decide_eq_true (by first | (with_reducible assumption) | assumption); have q114 : x10_5 < (l0.length : Int) := of_decide_eq_true (by first | (with_reducible assumption) | assumption); obtain ⟨ad114, e114, hx114_0⟩ := Kd.at_int HR0.out x10_5 p114 q114; obtain rfl : ad110 = ad114 := (by injection e114); replace p114 := eq_true p114; replace q114 := eq_true q114; have p115 : 0 ≤ (a2 : Int) := of_decide_eq_true (by first | (with_reducible assumption) | assumption); have q115 : a2 < (l0.length : Int) := of_decide_eq_true (by first | (with_reducible assumption) | assumption); obtain ⟨ad115, e115, hx115_0⟩ := Kd.at_int HR0.out a2 p115 q115; obtain rfl : ad110 = ad115 := (by injection e115); replace p115 := eq_true p115; replace q115 := eq_true q115))
                                                          repeat (go_quiet (first | (go_at_call 14; (with_reducible refine (spec_l2Full.calls a1 t112 _ A32.out).mono ?_); rintro e w' ⟨rfl, ⟨nd, rfl⟩⟩; (try first | exact ⟨rfl, _, World.drewN_drewN _ _ _⟩ | exact ⟨rfl, _, Eq.trans (World.drewN_drewN _ _ _) (congrArg (World.drewN _) (Nat.add_assoc _ _ _))⟩); have p113 : 0 ≤ (x9_4 : Int) := of_decide_eq_true (by first | (with_reducible assumption) | assumption); have q113 : x9_4 < (l0.length : Int) := of_decide_eq_true (by first | (with_reducible assumption) | assumption); obtain ⟨ad113, e113, hx113_0⟩ := Kd.at_int HR0.out x9_4 p113 q113; obtain rfl : ad110 = ad113 := (by injection e113); replace p113 := eq_true p113; replace q113 := eq_true q113; have p114 : 0 ≤ (x10_5 : Int) := of_decide_eq_true (by first | (with_reducible assumption) | assumption); have q114 : x10_5 < (l0.length : Int) := of_decide_eq_true (by first | (with_reducible assumption) | assumption); obtain ⟨ad114, e114, hx114_0⟩ := Kd.at_int HR0.out x10_5 p114 q114; obtain rfl : ad110 = ad114 := (by injection e114); replace p114 := eq_true p114; replace q114 := eq_true q114; have p115 : 0 ≤ (a2 : Int) := of_decide_eq_true (by first | (with_reducible assumption) | assumption); have q115 : a2 < (l0.length : Int) := of_decide_eq_true (by first | (with_reducible assumption) | assumption); obtain ⟨ad115, e115, hx115_0⟩ := Kd.at_int HR0.out a2 p115 q115; obtain rfl : ad110 = ad115 := (by injection e115); replace p115 := eq_true p115; replace q115 := eq_true q115)); go_upto_region 23 with (first | (go_at_call 14; (with_reducible refine (spec_l2Full.calls a1 t112 _ A32.out).mono ?_); rintro e w' ⟨rfl, ⟨nd, rfl⟩⟩; (try first | exact ⟨rfl, _, World.drewN_drewN _ _ _⟩ | exact ⟨rfl, _, Eq.trans (World.drewN_drewN _ _ _) (congrArg (World.drewN _) (Nat.add_assoc _ _ _))⟩); have p113 : 0 ≤ (x9_4 : Int) := of_decide_eq_true (by first | (with_reducible assumption) | assumption); have q113 : x9_4 < (l0.length : Int) := of_decide_eq_true (by first | (with_reducible assumption) | assumption); obtain ⟨ad113, e113, hx113_0⟩ := Kd.at_int HR0.out x9_4 p113 q113; obtain rfl : ad110 = ad113 := (by injection e113); replace p113 := eq_true p113; replace q113 := eq_true q113; have p114 : 0 ≤ (x10_5 : Int) := of_decide_eq_true (by first | (with_reducible assumption) | assumption); have q114 : x10_5 < (l0.length : Int) := of_decide_eq_true (by first | (with_reducible assumption) | assumption); obtain ⟨ad114, e114, hx114_0⟩ := Kd.at_int HR0.out x10_5 p114 q114; obtain rfl : ad110 = ad114 := (by injection e114); replace p114 := eq_true p114; replace q114 := eq_true q114; have p115 : 0 ≤ (a2 : Int) := of_decide_eq_true (by first | (with_reducible assumption) | assumption); have q115 : a2 < (l0.length : Int) := of_decide_eq_true (by first | (with_reducible assumption) | assumption); obtain ⟨ad115, e115, hx115_0⟩ := Kd.at_int HR0.out a2 p115 q115; obtain rfl : ad110 = ad115 := (by injection e115); replace p115 := eq_true p115; replace q115 := eq_true q115)))
                                                          (try simp only [Act.put, List.setIfInBounds_toArray, List.set_cons_zero, List.set_cons_succ])
                                                          go_cut [98] (fun v98 wc => ∃ (kq : Nat) (x98_40 : Bool), v98 = .bool x98_40 ∧ Aside0 (spec_l22Write.j5 kq l0 a1 a2 x8_3 x9_4 x10_5 x98_40 = some r) ∧ Aside0 (kq ≤ k5) ∧ Drawn0 w wc)
                                                          case first =>
                                                            have H := HC41.out
                                                            clear HC41
                                                            by_cases c42 : x8_3 = 0
                                                            · rw [if_pos c42] at H
                                                              have c42b0 : (x8_3 == 0) = true := beq_iff_eq.mpr c42
                                                              have c42b1 : (x8_3 != 0) = false := bne_eq_false_iff_eq.mpr c42
                                                              clear c42
                                                              (first | rw [c42b0] | (simp only [i64_w, i32_w]; rw [c42b0]) | skip)
                                                              have H' := Aside0.mk H
                                                              clear H
                                                              go_wp2
                                                              repeat (go_quiet (fail); try go_wp2)
                                                              go_meet
                                                              case rel => exact ⟨_, (((Go.bits .and .i64 x9_4 x10_5) == a2)), (by first | rfl | (simp; done) | (simp [*]; done)), H', ⟨by have := HK1.out; have := HJ6.out; have := HK3.out; have := HK4.out; have := HK5.out; first | omega | exact Nat.le_refl _⟩, by repeat (first | exact Drawn0.refl _ | apply Drawn0.step)⟩
                                                            · rw [if_neg c42] at H
                                                              have c42b0 : (x8_3 == 0) = false := beq_eq_false_iff_ne.mpr c42
                                                              have c42b1 : (x8_3 != 0) = true := bne_iff_ne.mpr c42
                                                              (first | rw [c42b0] | (simp only [i64_w, i32_w]; rw [c42b0]) | skip)
                                                              have H' := Aside0.mk H
                                                              clear H
                                                              go_wp2
                                                              repeat (go_quiet (fail); try go_wp2)
                                                              go_meet
                                                              case rel => exact ⟨_, (false), (by first | rfl | (simp; done) | (simp [*]; done)), H', ⟨by have := HK1.out; have := HJ6.out; have := HK3.out; have := HK4.out; have := HK5.out; first | omega | exact Nat.le_refl _⟩, by repeat (first | exact Drawn0.refl _ | apply Drawn0.step)⟩
                                                          case rest =>
                                                            clear HC41
                                                            try clear c1
                                                            try clear p1
                                                            try clear q1
                                                            try clear hx1
                                                            try clear c2
                                                            try clear p2
                                                            try clear c3
                                                            try clear c4
                                                            try clear c4b0
                                                            try clear c4b1
                                                            try clear c6
                                                            try clear c6b0
                                                            try clear c6b1
                                                            try clear p6
                                                            try clear c8
                                                            try clear c8b0
                                                            try clear c9
                                                            try clear c9b0
                                                            try clear c10
                                                            try clear c10b0
                                                            try clear p10
                                                            try clear q10
                                                            try clear hx10
                                                            try clear c11
                                                            try clear p11
                                                            try clear q11
                                                            try clear hx11
                                                            try clear c13
                                                            try clear c13b0
                                                            try clear c13b1
                                                            try clear c14
                                                            try clear c14b0
                                                            try clear c14b1
                                                            try clear c15
                                                            try clear c15b0
                                                            try clear c15b1
                                                            try clear c16
                                                            try clear c16b0
                                                            try clear c16b1
                                                            try clear c19
                                                            try clear c19b0
                                                            try clear c19b1
                                                            try clear c20
                                                            try clear c20b0
                                                            try clear c20b1
                                                            try clear c21
                                                            try clear c21b0
                                                            try clear c21b1
                                                            try clear c22
                                                            try clear c22b0
                                                            try clear c22b1
                                                            try clear c23
                                                            try clear c23b0
                                                            try clear c23b1
                                                            try clear c23b2
                                                            try clear c24
                                                            try clear c24b0
                                                            try clear c26
                                                            try clear c26b0
                                                            try clear c27
                                                            try clear c27b0
                                                            try clear c28
                                                            try clear c28b0
                                                            try clear c29
                                                            try clear c29b0
                                                            try clear c30
                                                            try clear c30b0
                                                            try clear c31
                                                            try clear c31b0
                                                            try clear c33
                                                            try clear c33b0
                                                            try clear c34
                                                            try clear c34b0
                                                            try clear c35
                                                            try clear c35b0
                                                            try clear c36
                                                            try clear c36b0
                                                            try clear c37
                                                            try clear c37b0
                                                            try clear c38
                                                            try clear c38b0
                                                            try clear c39
                                                            try clear c39b0
                                                            try clear c40
                                                            try clear c40b0
                                                            try clear c40b1
                                                            try clear c42
                                                            try clear c42b0
                                                            try clear c42b1
                                                            try clear hx105_0
                                                            try clear hx110_0
                                                            try clear hx111_0
                                                            try clear hx113_0
                                                            try clear hx114_0
                                                            try clear hx115_0
                                                            try clear p1
                                                            try clear p10
                                                            try clear p105
                                                            try clear p11
                                                            try clear p110
                                                            try clear p111
                                                            try clear p113
                                                            try clear p114
                                                            try clear p115
                                                            try clear p2
                                                            try clear p6
                                                            try clear q1
                                                            try clear q10
                                                            try clear q105
                                                            try clear q11
                                                            try clear q110
                                                            try clear q111
                                                            try clear q113
                                                            try clear q114
                                                            try clear q115
                                                            obtain ⟨kq, x98_40, rfl, HA, HJ40, ⟨mc40, rfl⟩⟩ := hcut
                                                            cases kq with
                                                            | zero => exact absurd HA.out (by simp [spec_l22Write.j5])
                                                            | succ kj40 =>
                                                              have H := HA.out
                                                              clear HA
                                                              simp only [spec_l22Write.j5] at H
                                                              by_cases c43 : x98_40 = true
                                                              · subst c43
                                                                have H1 : ((spec_l22Write.f kj40 l0 a1 x9_4).bind fun t116 => (if 1 + t116.size ≤ 9223372036854775807 then ((spec_l22Write.f kj40 l0 a1 x10_5).bind fun t117 => (if ((⟨#[38]⟩ : ByteArray) ++ t116).size + t117.size ≤ 9223372036854775807 then (some (((⟨#[38]⟩ : ByteArray) ++ t116) ++ t117)) else (none))) else (none))) = some r := by rw [if_pos rfl] at H; exact H
                                                                clear H
                                                                have H := H1
                                                                clear H1
                                                                replace H := Option.bind_eq_some_iff.mp H
                                                                obtain ⟨t116, A440, H⟩ := H
                                                                replace H : (if 1 + t116.size ≤ 9223372036854775807 then ((spec_l22Write.f kj40 l0 a1 x10_5).bind fun t117 => (if ((⟨#[38]⟩ : ByteArray) ++ t116).size + t117.size ≤ 9223372036854775807 then (some (((⟨#[38]⟩ : ByteArray) ++ t116) ++ t117)) else (none))) else (none)) = some r := H
                                                                have A44 := Aside0.mk A440
                                                                clear A440
                                                                by_cases c45 : 1 + t116.size ≤ 9223372036854775807
                                                                · rw [if_pos c45] at H
                                                                  have c45b0 := eq_true c45
                                                                  have c45b1 : decide (1 + t116.size ≤ 9223372036854775807) = true := decide_eq_true c45
                                                                  try have c45b2 : (9223372036854775807 < 1 + t116.size) = False := eq_false (Nat.not_lt.2 c45)
                                                                  replace H := Option.bind_eq_some_iff.mp H
                                                                  obtain ⟨t117, A460, H⟩ := H
                                                                  replace H : (if ((⟨#[38]⟩ : ByteArray) ++ t116).size + t117.size ≤ 9223372036854775807 then (some (((⟨#[38]⟩ : ByteArray) ++ t116) ++ t117)) else (none)) = some r := H
                                                                  have A46 := Aside0.mk A460
                                                                  clear A460
                                                                  by_cases c47 : ((⟨#[38]⟩ : ByteArray) ++ t116).size + t117.size ≤ 9223372036854775807
                                                                  · rw [if_pos c47] at H
                                                                    have c47b0 := eq_true c47
                                                                    have c47b1 : decide (((⟨#[38]⟩ : ByteArray) ++ t116).size + t117.size ≤ 9223372036854775807) = true := decide_eq_true c47
                                                                    try have c47b2 : (9223372036854775807 < ((⟨#[38]⟩ : ByteArray) ++ t116).size + t117.size) = False := eq_false (Nat.not_lt.2 c47)
                                                                    obtain rfl := Option.some.inj H
                                                                    go_wp2_with (first | (go_at_call 8; (with_reducible refine (ih kj40 (by have := HK1.out; have := HJ6.out; have := HK3.out; have := HK4.out; have := HK5.out; have := HJ40.out; omega) _ _ l0 a1 x9_4 t116 _ ?side1 ?side2 A44.out).mono ?_); (case side1 => repeat (first | exact HR0.out | (with_reducible refine Kd.C_alloc ?_ _) | (with_reducible refine Kd.C_drewN ?_ _) | (with_reducible refine Kd.C_drew ?_))); (case side2 => exact HC0.out); rintro e w' ⟨rfl, ⟨nd, rfl⟩⟩; (try first | exact ⟨rfl, _, World.drewN_drewN _ _ _⟩ | exact ⟨rfl, _, Eq.trans (World.drewN_drewN _ _ _) (congrArg (World.drewN _) (Nat.add_assoc _ _ _))⟩)) | (go_at_call 8; (with_reducible refine (ih kj40 (by have := HK1.out; have := HJ6.out; have := HK3.out; have := HK4.out; have := HK5.out; have := HJ40.out; omega) _ _ l0 a1 x10_5 t117 _ ?side1 ?side2 A46.out).mono ?_); (case side1 => repeat (first | exact HR0.out | (with_reducible refine Kd.C_alloc ?_ _) | (with_reducible refine Kd.C_drewN ?_ _) | (with_reducible refine Kd.C_drew ?_))); (case side2 => exact HC0.out); rintro e w' ⟨rfl, ⟨nd, rfl⟩⟩; (try first | exact ⟨rfl, _, World.drewN_drewN _ _ _⟩ | exact ⟨rfl, _, Eq.trans (World.drewN_drewN _ _ _) (congrArg (World.drewN _) (Nat.add_assoc _ _ _))⟩)))
                                                                    repeat (go_quiet (first | (go_at_call 8; (with_reducible refine (ih kj40 (by have := HK1.out; have := HJ6.out; have := HK3.out; have := HK4.out; have := HK5.out; have := HJ40.out; omega) _ _ l0 a1 x9_4 t116 _ ?side1 ?side2 A44.out).mono ?_); (case side1 => repeat (first | exact HR0.out | (with_reducible refine Kd.C_alloc ?_ _) | (with_reducible refine Kd.C_drewN ?_ _) | (with_reducible refine Kd.C_drew ?_))); (case side2 => exact HC0.out); rintro e w' ⟨rfl, ⟨nd, rfl⟩⟩; (try first | exact ⟨rfl, _, World.drewN_drewN _ _ _⟩ | exact ⟨rfl, _, Eq.trans (World.drewN_drewN _ _ _) (congrArg (World.drewN _) (Nat.add_assoc _ _ _))⟩)) | (go_at_call 8; (with_reducible refine (ih kj40 (by have := HK1.out; have := HJ6.out; have := HK3.out; have := HK4.out; have := HK5.out; have := HJ40.out; omega) _ _ l0 a1 x10_5 t117 _ ?side1 ?side2 A46.out).mono ?_); (case side1 => repeat (first | exact HR0.out | (with_reducible refine Kd.C_alloc ?_ _) | (with_reducible refine Kd.C_drewN ?_ _) | (with_reducible refine Kd.C_drew ?_))); (case side2 => exact HC0.out); rintro e w' ⟨rfl, ⟨nd, rfl⟩⟩; (try first | exact ⟨rfl, _, World.drewN_drewN _ _ _⟩ | exact ⟨rfl, _, Eq.trans (World.drewN_drewN _ _ _) (congrArg (World.drewN _) (Nat.add_assoc _ _ _))⟩))); try go_wp2_with (first | (go_at_call 8; (with_reducible refine (ih kj40 (by have := HK1.out; have := HJ6.out; have := HK3.out; have := HK4.out; have := HK5.out; have := HJ40.out; omega) _ _ l0 a1 x9_4 t116 _ ?side1 ?side2 A44.out).mono ?_); (case side1 => repeat (first | exact HR0.out | (with_reducible refine Kd.C_alloc ?_ _) | (with_reducible refine Kd.C_drewN ?_ _) | (with_reducible refine Kd.C_drew ?_))); (case side2 => exact HC0.out); rintro e w' ⟨rfl, ⟨nd, rfl⟩⟩; (try first | exact ⟨rfl, _, World.drewN_drewN _ _ _⟩ | exact ⟨rfl, _, Eq.trans (World.drewN_drewN _ _ _) (congrArg (World.drewN _) (Nat.add_assoc _ _ _))⟩)) | (go_at_call 8; (with_reducible refine (ih kj40 (by have := HK1.out; have := HJ6.out; have := HK3.out; have := HK4.out; have := HK5.out; have := HJ40.out; omega) _ _ l0 a1 x10_5 t117 _ ?side1 ?side2 A46.out).mono ?_); (case side1 => repeat (first | exact HR0.out | (with_reducible refine Kd.C_alloc ?_ _) | (with_reducible refine Kd.C_drewN ?_ _) | (with_reducible refine Kd.C_drew ?_))); (case side2 => exact HC0.out); rintro e w' ⟨rfl, ⟨nd, rfl⟩⟩; (try first | exact ⟨rfl, _, World.drewN_drewN _ _ _⟩ | exact ⟨rfl, _, Eq.trans (World.drewN_drewN _ _ _) (congrArg (World.drewN _) (Nat.add_assoc _ _ _))⟩))))
                                                                    go_ret
                                                                    exact ⟨by first | rfl | (simp; done) | (simp [*]; done), by repeat (first | exact Drawn0.refl _ | apply Drawn0.step)⟩
                                                                  · rw [if_neg c47] at H
                                                                    exact absurd H (by simp)
                                                                · rw [if_neg c45] at H
                                                                  exact absurd H (by simp)
                                                              · replace c43 := Bool.eq_false_iff.mpr c43
                                                                subst c43
                                                                have H1 : (if x8_3 = 1 then (spec_l22Write.j6 kj40 l0 a1 a2 x8_3 x9_4 x10_5 ((Go.bits .or .i64 x9_4 x10_5) == a2)) else (spec_l22Write.j6 kj40 l0 a1 a2 x8_3 x9_4 x10_5 false)) = some r := by rw [if_neg (show ¬ (false = true) by decide)] at H; exact H
                                                                clear H
                                                                have H := H1
                                                                clear H1
                                                                have HC48 := Aside0.mk H
                                                                clear H
                                                                go_upto_region 25 with (fail)
                                                                repeat (go_quiet (fail); go_upto_region 25 with (fail))
                                                                go_cut [117] (fun v117 wc => ∃ (kq : Nat) (x117_47 : Bool), v117 = .bool x117_47 ∧ Aside0 (spec_l22Write.j6 kq l0 a1 a2 x8_3 x9_4 x10_5 x117_47 = some r) ∧ Aside0 (kq ≤ kj40) ∧ Drawn0 w wc)
                                                                case first =>
                                                                  have H := HC48.out
                                                                  clear HC48
                                                                  by_cases c49 : x8_3 = 1
                                                                  · rw [if_pos c49] at H
                                                                    have c49b0 : (x8_3 == 1) = true := beq_iff_eq.mpr c49
                                                                    have c49b1 : (x8_3 != 1) = false := bne_eq_false_iff_eq.mpr c49
                                                                    clear c49
                                                                    (first | rw [c49b0] | (simp only [i64_w, i32_w]; rw [c49b0]) | skip)
                                                                    have H' := Aside0.mk H
                                                                    clear H
                                                                    go_wp2
                                                                    repeat (go_quiet (fail); try go_wp2)
                                                                    go_meet
                                                                    case rel => exact ⟨_, (((Go.bits .or .i64 x9_4 x10_5) == a2)), (by first | rfl | (simp; done) | (simp [*]; done)), H', ⟨by have := HK1.out; have := HJ6.out; have := HK3.out; have := HK4.out; have := HK5.out; have := HJ40.out; first | omega | exact Nat.le_refl _⟩, by repeat (first | exact Drawn0.refl _ | apply Drawn0.step)⟩
                                                                  · rw [if_neg c49] at H
                                                                    have c49b0 : (x8_3 == 1) = false := beq_eq_false_iff_ne.mpr c49
                                                                    have c49b1 : (x8_3 != 1) = true := bne_iff_ne.mpr c49
                                                                    (first | rw [c49b0] | (simp only [i64_w, i32_w]; rw [c49b0]) | skip)
                                                                    have H' := Aside0.mk H
                                                                    clear H
                                                                    go_wp2
                                                                    repeat (go_quiet (fail); try go_wp2)
                                                                    go_meet
                                                                    case rel => exact ⟨_, (false), (by first | rfl | (simp; done) | (simp [*]; done)), H', ⟨by have := HK1.out; have := HJ6.out; have := HK3.out; have := HK4.out; have := HK5.out; have := HJ40.out; first | omega | exact Nat.le_refl _⟩, by repeat (first | exact Drawn0.refl _ | apply Drawn0.step)⟩
                                                                case rest =>
                                                                  clear HC48
                                                                  try clear c1
                                                                  try clear p1
                                                                  try clear q1
                                                                  try clear hx1
                                                                  try clear c2
                                                                  try clear p2
                                                                  try clear c3
                                                                  try clear c4
                                                                  try clear c4b0
                                                                  try clear c4b1
                                                                  try clear c6
                                                                  try clear c6b0
                                                                  try clear c6b1
                                                                  try clear p6
                                                                  try clear c8
                                                                  try clear c8b0
                                                                  try clear c9
                                                                  try clear c9b0
                                                                  try clear c10
                                                                  try clear c10b0
                                                                  try clear p10
                                                                  try clear q10
                                                                  try clear hx10
                                                                  try clear c11
                                                                  try clear p11
                                                                  try clear q11
                                                                  try clear hx11
                                                                  try clear c13
                                                                  try clear c13b0
                                                                  try clear c13b1
                                                                  try clear c14
                                                                  try clear c14b0
                                                                  try clear c14b1
                                                                  try clear c15
                                                                  try clear c15b0
                                                                  try clear c15b1
                                                                  try clear c16
                                                                  try clear c16b0
                                                                  try clear c16b1
                                                                  try clear c19
                                                                  try clear c19b0
                                                                  try clear c19b1
                                                                  try clear c20
                                                                  try clear c20b0
                                                                  try clear c20b1
                                                                  try clear c21
                                                                  try clear c21b0
                                                                  try clear c21b1
                                                                  try clear c22
                                                                  try clear c22b0
                                                                  try clear c22b1
                                                                  try clear c23
                                                                  try clear c23b0
                                                                  try clear c23b1
                                                                  try clear c23b2
                                                                  try clear c24
                                                                  try clear c24b0
                                                                  try clear c26
                                                                  try clear c26b0
                                                                  try clear c27
                                                                  try clear c27b0
                                                                  try clear c28
                                                                  try clear c28b0
                                                                  try clear c29
                                                                  try clear c29b0
                                                                  try clear c30
                                                                  try clear c30b0
                                                                  try clear c31
                                                                  try clear c31b0
                                                                  try clear c33
                                                                  try clear c33b0
                                                                  try clear c34
                                                                  try clear c34b0
                                                                  try clear c35
                                                                  try clear c35b0
                                                                  try clear c36
                                                                  try clear c36b0
                                                                  try clear c37
                                                                  try clear c37b0
                                                                  try clear c38
                                                                  try clear c38b0
                                                                  try clear c39
                                                                  try clear c39b0
                                                                  try clear c40
                                                                  try clear c40b0
                                                                  try clear c40b1
                                                                  try clear c42
                                                                  try clear c42b0
                                                                  try clear c42b1
                                                                  try clear c43
                                                                  try clear c45
                                                                  try clear c45b0
                                                                  try clear c45b1
                                                                  try clear c45b2
                                                                  try clear c47
                                                                  try clear c47b0
                                                                  try clear c47b1
                                                                  try clear c47b2
                                                                  try clear c49
                                                                  try clear c49b0
                                                                  try clear c49b1
                                                                  try clear hx105_0
                                                                  try clear hx110_0
                                                                  try clear hx111_0
                                                                  try clear hx113_0
                                                                  try clear hx114_0
                                                                  try clear hx115_0
                                                                  try clear p1
                                                                  try clear p10
                                                                  try clear p105
                                                                  try clear p11
                                                                  try clear p110
                                                                  try clear p111
                                                                  try clear p113
                                                                  try clear p114
                                                                  try clear p115
                                                                  try clear p2
                                                                  try clear p6
                                                                  try clear q1
                                                                  try clear q10
                                                                  try clear q105
                                                                  try clear q11
                                                                  try clear q110
                                                                  try clear q111
                                                                  try clear q113
                                                                  try clear q114
                                                                  try clear q115
                                                                  obtain ⟨kq, x117_47, rfl, HA, HJ47, ⟨mc47, rfl⟩⟩ := hcut
                                                                  cases kq with
                                                                  | zero => exact absurd HA.out (by simp [spec_l22Write.j6])
                                                                  | succ kj47 =>
                                                                    have H := HA.out
                                                                    clear HA
                                                                    simp only [spec_l22Write.j6] at H
                                                                    by_cases c50 : x117_47 = true
                                                                    · subst c50
                                                                      have H1 : ((spec_l22Write.f kj47 l0 a1 x9_4).bind fun t118 => (if 1 + t118.size ≤ 9223372036854775807 then ((spec_l22Write.f kj47 l0 a1 x10_5).bind fun t119 => (if ((⟨#[124]⟩ : ByteArray) ++ t118).size + t119.size ≤ 9223372036854775807 then (some (((⟨#[124]⟩ : ByteArray) ++ t118) ++ t119)) else (none))) else (none))) = some r := by rw [if_pos rfl] at H; exact H
                                                                      clear H
                                                                      have H := H1
                                                                      clear H1
                                                                      replace H := Option.bind_eq_some_iff.mp H
                                                                      obtain ⟨t118, A510, H⟩ := H
                                                                      replace H : (if 1 + t118.size ≤ 9223372036854775807 then ((spec_l22Write.f kj47 l0 a1 x10_5).bind fun t119 => (if ((⟨#[124]⟩ : ByteArray) ++ t118).size + t119.size ≤ 9223372036854775807 then (some (((⟨#[124]⟩ : ByteArray) ++ t118) ++ t119)) else (none))) else (none)) = some r := H
                                                                      have A51 := Aside0.mk A510
                                                                      clear A510
                                                                      by_cases c52 : 1 + t118.size ≤ 9223372036854775807
                                                                      · rw [if_pos c52] at H
                                                                        have c52b0 := eq_true c52
                                                                        have c52b1 : decide (1 + t118.size ≤ 9223372036854775807) = true := decide_eq_true c52
                                                                        try have c52b2 : (9223372036854775807 < 1 + t118.size) = False := eq_false (Nat.not_lt.2 c52)
                                                                        replace H := Option.bind_eq_some_iff.mp H
                                                                        obtain ⟨t119, A530, H⟩ := H
                                                                        replace H : (if ((⟨#[124]⟩ : ByteArray) ++ t118).size + t119.size ≤ 9223372036854775807 then (some (((⟨#[124]⟩ : ByteArray) ++ t118) ++ t119)) else (none)) = some r := H
                                                                        have A53 := Aside0.mk A530
                                                                        clear A530
                                                                        by_cases c54 : ((⟨#[124]⟩ : ByteArray) ++ t118).size + t119.size ≤ 9223372036854775807
                                                                        · rw [if_pos c54] at H
                                                                          have c54b0 := eq_true c54
                                                                          have c54b1 : decide (((⟨#[124]⟩ : ByteArray) ++ t118).size + t119.size ≤ 9223372036854775807) = true := decide_eq_true c54
                                                                          try have c54b2 : (9223372036854775807 < ((⟨#[124]⟩ : ByteArray) ++ t118).size + t119.size) = False := eq_false (Nat.not_lt.2 c54)
                                                                          obtain rfl := Option.some.inj H
                                                                          go_wp2_with (first | (go_at_call 8; (with_reducible refine (ih kj47 (by have := HK1.out; have := HJ6.out; have := HK3.out; have := HK4.out; have := HK5.out; have := HJ40.out; have := HJ47.out; omega) _ _ l0 a1 x9_4 t118 _ ?side1 ?side2 A51.out).mono ?_); (case side1 => repeat (first | exact HR0.out | (with_reducible refine Kd.C_alloc ?_ _) | (with_reducible refine Kd.C_drewN ?_ _) | (with_reducible refine Kd.C_drew ?_))); (case side2 => exact HC0.out); rintro e w' ⟨rfl, ⟨nd, rfl⟩⟩; (try first | exact ⟨rfl, _, World.drewN_drewN _ _ _⟩ | exact ⟨rfl, _, Eq.trans (World.drewN_drewN _ _ _) (congrArg (World.drewN _) (Nat.add_assoc _ _ _))⟩)) | (go_at_call 8; (with_reducible refine (ih kj47 (by have := HK1.out; have := HJ6.out; have := HK3.out; have := HK4.out; have := HK5.out; have := HJ40.out; have := HJ47.out; omega) _ _ l0 a1 x10_5 t119 _ ?side1 ?side2 A53.out).mono ?_); (case side1 => repeat (first | exact HR0.out | (with_reducible refine Kd.C_alloc ?_ _) | (with_reducible refine Kd.C_drewN ?_ _) | (with_reducible refine Kd.C_drew ?_))); (case side2 => exact HC0.out); rintro e w' ⟨rfl, ⟨nd, rfl⟩⟩; (try first | exact ⟨rfl, _, World.drewN_drewN _ _ _⟩ | exact ⟨rfl, _, Eq.trans (World.drewN_drewN _ _ _) (congrArg (World.drewN _) (Nat.add_assoc _ _ _))⟩)))
                                                                          repeat (go_quiet (first | (go_at_call 8; (with_reducible refine (ih kj47 (by have := HK1.out; have := HJ6.out; have := HK3.out; have := HK4.out; have := HK5.out; have := HJ40.out; have := HJ47.out; omega) _ _ l0 a1 x9_4 t118 _ ?side1 ?side2 A51.out).mono ?_); (case side1 => repeat (first | exact HR0.out | (with_reducible refine Kd.C_alloc ?_ _) | (with_reducible refine Kd.C_drewN ?_ _) | (with_reducible refine Kd.C_drew ?_))); (case side2 => exact HC0.out); rintro e w' ⟨rfl, ⟨nd, rfl⟩⟩; (try first | exact ⟨rfl, _, World.drewN_drewN _ _ _⟩ | exact ⟨rfl, _, Eq.trans (World.drewN_drewN _ _ _) (congrArg (World.drewN _) (Nat.add_assoc _ _ _))⟩)) | (go_at_call 8; (with_reducible refine (ih kj47 (by have := HK1.out; have := HJ6.out; have := HK3.out; have := HK4.out; have := HK5.out; have := HJ40.out; have := HJ47.out; omega) _ _ l0 a1 x10_5 t119 _ ?side1 ?side2 A53.out).mono ?_); (case side1 => repeat (first | exact HR0.out | (with_reducible refine Kd.C_alloc ?_ _) | (with_reducible refine Kd.C_drewN ?_ _) | (with_reducible refine Kd.C_drew ?_))); (case side2 => exact HC0.out); rintro e w' ⟨rfl, ⟨nd, rfl⟩⟩; (try first | exact ⟨rfl, _, World.drewN_drewN _ _ _⟩ | exact ⟨rfl, _, Eq.trans (World.drewN_drewN _ _ _) (congrArg (World.drewN _) (Nat.add_assoc _ _ _))⟩))); try go_wp2_with (first | (go_at_call 8; (with_reducible refine (ih kj47 (by have := HK1.out; have := HJ6.out; have := HK3.out; have := HK4.out; have := HK5.out; have := HJ40.out; have := HJ47.out; omega) _ _ l0 a1 x9_4 t118 _ ?side1 ?side2 A51.out).mono ?_); (case side1 => repeat (first | exact HR0.out | (with_reducible refine Kd.C_alloc ?_ _) | (with_reducible refine Kd.C_drewN ?_ _) | (with_reducible refine Kd.C_drew ?_))); (case side2 => exact HC0.out); rintro e w' ⟨rfl, ⟨nd, rfl⟩⟩; (try first | exact ⟨rfl, _, World.drewN_drewN _ _ _⟩ | exact ⟨rfl, _, Eq.trans (World.drewN_drewN _ _ _) (congrArg (World.drewN _) (Nat.add_assoc _ _ _))⟩)) | (go_at_call 8; (with_reducible refine (ih kj47 (by have := HK1.out; have := HJ6.out; have := HK3.out; have := HK4.out; have := HK5.out; have := HJ40.out; have := HJ47.out; omega) _ _ l0 a1 x10_5 t119 _ ?side1 ?side2 A53.out).mono ?_); (case side1 => repeat (first | exact HR0.out | (with_reducible refine Kd.C_alloc ?_ _) | (with_reducible refine Kd.C_drewN ?_ _) | (with_reducible refine Kd.C_drew ?_))); (case side2 => exact HC0.out); rintro e w' ⟨rfl, ⟨nd, rfl⟩⟩; (try first | exact ⟨rfl, _, World.drewN_drewN _ _ _⟩ | exact ⟨rfl, _, Eq.trans (World.drewN_drewN _ _ _) (congrArg (World.drewN _) (Nat.add_assoc _ _ _))⟩))))
                                                                          go_ret
                                                                          exact ⟨by first | rfl | (simp; done) | (simp [*]; done), by repeat (first | exact Drawn0.refl _ | apply Drawn0.step)⟩
                                                                        · rw [if_neg c54] at H
                                                                          exact absurd H (by simp)
                                                                      · rw [if_neg c52] at H
                                                                        exact absurd H (by simp)
                                                                    · replace c50 := Bool.eq_false_iff.mpr c50
                                                                      subst c50
                                                                      have H1 : (spec_l22Write.l3 kj47 l0 a1 a2 x8_3 x9_4 (wrap64 (x10_5 + 1))) = some r := by rw [if_neg (show ¬ (false = true) by decide)] at H; exact H
                                                                      clear H
                                                                      have H := H1
                                                                      clear H1
                                                                      have H' := Aside0.mk H
                                                                      clear H
                                                                      go_wp2
                                                                      repeat (go_quiet (fail); try go_wp2)
                                                                      go_roundg kj47
                                                                      case measure => have := HK1.out; have := HJ6.out; have := HK3.out; have := HK4.out; have := HK5.out; have := HJ40.out; have := HJ47.out; omega
                                                                      case rel => exact ⟨(wrap64 (x10_5 + 1)), (by first | rfl | (simp; done) | (simp [*]; done)), H', ⟨by have := HK1.out; have := HJ6.out; have := HK3.out; have := HK4.out; have := HK5.out; have := HJ40.out; have := HJ47.out; omega⟩, by repeat (first | exact Drawn0.refl _ | apply Drawn0.step)⟩
                                                        · rw [if_neg c40] at H
                                                          have c40b0 : ((wrap64 ((rd l0 x9_4) + (rd l0 x10_5))) == (rd l0 a2)) = false := beq_eq_false_iff_ne.mpr c40
                                                          have c40b1 : ((wrap64 ((rd l0 x9_4) + (rd l0 x10_5))) != (rd l0 a2)) = true := bne_iff_ne.mpr c40
                                                          have H' := Aside0.mk H
                                                          clear H
                                                          go_wp2_with (first | (go_at_call 14; (with_reducible refine (spec_l2Full.calls a1 t112 _ A32.out).mono ?_); rintro e w' ⟨rfl, ⟨nd, rfl⟩⟩; (try first | exact ⟨rfl, _, World.drewN_drewN _ _ _⟩ | exact ⟨rfl, _, Eq.trans (World.drewN_drewN _ _ _) (congrArg (World.drewN _) (Nat.add_assoc _ _ _))⟩); (try (have p113 : 0 ≤ (x9_4 : Int) := of_decide_eq_true (by first | (with_reducible assumption) | assumption); have q113 : x9_4 < (l0.length : Int) := of_decide_eq_true (by first | (with_reducible assumption) | assumption); obtain ⟨ad113, e113, hx113_0⟩ := Kd.at_int HR0.out x9_4 p113 q113; obtain rfl : ad110 = ad113 := (by injection e113); replace p113 := eq_true p113; replace q113 := eq_true q113; have p114 : 0 ≤ (x10_5 : Int) := of_decide_eq_true (by first | (with_reducible assumption) | assumption); have q114 : x10_5 < (l0.length : Int) := of_decide_eq_true (by first | (with_reducible assumption) | assumption); obtain ⟨ad114, e114, hx114_0⟩ := Kd.at_int HR0.out x10_5 p114 q114; obtain rfl : ad110 = ad114 := (by injection e114); replace p114 := eq_true p114; replace q114 := eq_true q114; have p115 : 0 ≤ (a2 : Int) := of_decide_eq_true (by first | (with_reducible assumption) | assumption); have q115 : a2 < (l0.length : Int) := of_decide_eq_true (by first | (with_reducible assumption) | assumption); obtain ⟨ad115, e115, hx115_0⟩ := Kd.at_int HR0.out a2 p115 q115; obtain rfl : ad110 = ad115 := (by injection e115); replace p115 := eq_true p115; replace q115 := eq_true q115))))
                                                          repeat (go_quiet (first | (go_at_call 14; (with_reducible refine (spec_l2Full.calls a1 t112 _ A32.out).mono ?_); rintro e w' ⟨rfl, ⟨nd, rfl⟩⟩; (try first | exact ⟨rfl, _, World.drewN_drewN _ _ _⟩ | exact ⟨rfl, _, Eq.trans (World.drewN_drewN _ _ _) (congrArg (World.drewN _) (Nat.add_assoc _ _ _))⟩); (try (have p113 : 0 ≤ (x9_4 : Int) := of_decide_eq_true (by first | (with_reducible assumption) | assumption); have q113 : x9_4 < (l0.length : Int) := of_decide_eq_true (by first | (with_reducible assumption) | assumption); obtain ⟨ad113, e113, hx113_0⟩ := Kd.at_int HR0.out x9_4 p113 q113; obtain rfl : ad110 = ad113 := (by injection e113); replace p113 := eq_true p113; replace q113 := eq_true q113; have p114 : 0 ≤ (x10_5 : Int) := of_decide_eq_true (by first | (with_reducible assumption) | assumption); have q114 : x10_5 < (l0.length : Int) := of_decide_eq_true (by first | (with_reducible assumption) | assumption); obtain ⟨ad114, e114, hx114_0⟩ := Kd.at_int HR0.out x10_5 p114 q114; obtain rfl : ad110 = ad114 := (by injection e114); replace p114 := eq_true p114; replace q114 := eq_true q114; have p115 : 0 ≤ (a2 : Int) := of_decide_eq_true (by first | (with_reducible assumption) | assumption); have q115 : a2 < (l0.length : Int) := of_decide_eq_true (by first | (with_reducible assumption) | assumption); obtain ⟨ad115, e115, hx115_0⟩ := Kd.at_int HR0.out a2 p115 q115; obtain rfl : ad110 = ad115 := (by injection e115); replace p115 := eq_true p115; replace q115 := eq_true q115)))); try go_wp2_with (first | (go_at_call 14; (with_reducible refine (spec_l2Full.calls a1 t112 _ A32.out).mono ?_); rintro e w' ⟨rfl, ⟨nd, rfl⟩⟩; (try first | exact ⟨rfl, _, World.drewN_drewN _ _ _⟩ | exact ⟨rfl, _, Eq.trans (World.drewN_drewN _ _ _) (congrArg (World.drewN _) (Nat.add_assoc _ _ _))⟩); (try (have p113 : 0 ≤ (x9_4 : Int) := of_decide_eq_true (by first | (with_reducible assumption) | assumption); have q113 : x9_4 < (l0.length : Int) := of_decide_eq_true (by first | (with_reducible assumption) | assumption); obtain ⟨ad113, e113, hx113_0⟩ := Kd.at_int HR0.out x9_4 p113 q113; obtain rfl : ad110 = ad113 := (by injection e113); replace p113 := eq_true p113; replace q113 := eq_true q113; have p114 : 0 ≤ (x10_5 : Int) := of_decide_eq_true (by first | (with_reducible assumption) | assumption); have q114 : x10_5 < (l0.length : Int) := of_decide_eq_true (by first | (with_reducible assumption) | assumption); obtain ⟨ad114, e114, hx114_0⟩ := Kd.at_int HR0.out x10_5 p114 q114; obtain rfl : ad110 = ad114 := (by injection e114); replace p114 := eq_true p114; replace q114 := eq_true q114; have p115 : 0 ≤ (a2 : Int) := of_decide_eq_true (by first | (with_reducible assumption) | assumption); have q115 : a2 < (l0.length : Int) := of_decide_eq_true (by first | (with_reducible assumption) | assumption); obtain ⟨ad115, e115, hx115_0⟩ := Kd.at_int HR0.out a2 p115 q115; obtain rfl : ad110 = ad115 := (by injection e115); replace p115 := eq_true p115; replace q115 := eq_true q115)))))
                                                          go_roundg k5
                                                          case measure => have := HK1.out; have := HJ6.out; have := HK3.out; have := HK4.out; have := HK5.out; omega
                                                          case rel => exact ⟨(wrap64 (x10_5 + 1)), (by first | rfl | (simp; done) | (simp [*]; done)), H', ⟨by have := HK1.out; have := HJ6.out; have := HK3.out; have := HK4.out; have := HK5.out; omega⟩, by repeat (first | exact Drawn0.refl _ | apply Drawn0.step)⟩
                                                      · rw [if_neg c39] at H
                                                        exact absurd H (by simp)
                                                    · rw [if_neg c38] at H
                                                      exact absurd H (by simp)
                                                  · rw [if_neg c37] at H
                                                    exact absurd H (by simp)
                                                · rw [if_neg c36] at H
                                                  exact absurd H (by simp)
                                              · rw [if_neg c35] at H
                                                exact absurd H (by simp)
                                            · rw [if_neg c34] at H
                                              exact absurd H (by simp)
                                          · rw [if_neg c33] at H
                                            have c33b0 : decide (x10_5 < t112) = false := decide_eq_false c33
                                            clear c33
                                            have H' := Aside0.mk H
                                            clear H
                                            go_wp2_with (first | (go_at_call 14; (with_reducible refine (spec_l2Full.calls a1 t112 _ A32.out).mono ?_); rintro e w' ⟨rfl, ⟨nd, rfl⟩⟩; (try first | exact ⟨rfl, _, World.drewN_drewN _ _ _⟩ | exact ⟨rfl, _, Eq.trans (World.drewN_drewN _ _ _) (congrArg (World.drewN _) (Nat.add_assoc _ _ _))⟩)))
                                            repeat (go_quiet (first | (go_at_call 14; (with_reducible refine (spec_l2Full.calls a1 t112 _ A32.out).mono ?_); rintro e w' ⟨rfl, ⟨nd, rfl⟩⟩; (try first | exact ⟨rfl, _, World.drewN_drewN _ _ _⟩ | exact ⟨rfl, _, Eq.trans (World.drewN_drewN _ _ _) (congrArg (World.drewN _) (Nat.add_assoc _ _ _))⟩))); try go_wp2_with (first | (go_at_call 14; (with_reducible refine (spec_l2Full.calls a1 t112 _ A32.out).mono ?_); rintro e w' ⟨rfl, ⟨nd, rfl⟩⟩; (try first | exact ⟨rfl, _, World.drewN_drewN _ _ _⟩ | exact ⟨rfl, _, Eq.trans (World.drewN_drewN _ _ _) (congrArg (World.drewN _) (Nat.add_assoc _ _ _))⟩))))
                                            go_roundg k5
                                            case measure => have := HK1.out; have := HJ6.out; have := HK3.out; have := HK4.out; have := HK5.out; omega
                                            case rel => exact ⟨(wrap64 (x9_4 + 1)), (by first | rfl | (simp; done) | (simp [*]; done)), H', ⟨by have := HK1.out; have := HJ6.out; have := HK3.out; have := HK4.out; have := HK5.out; omega⟩, by repeat (first | exact Drawn0.refl _ | apply Drawn0.step)⟩
                                  · rw [if_neg c30] at H
                                    exact absurd H (by simp)
                                · rw [if_neg c29] at H
                                  exact absurd H (by simp)
                              · rw [if_neg c28] at H
                                exact absurd H (by simp)
                            · rw [if_neg c27] at H
                              exact absurd H (by simp)
                          · rw [if_neg c26] at H
                            have c26b0 : decide (x9_4 < t109) = false := decide_eq_false c26
                            clear c26
                            have H' := Aside0.mk H
                            clear H
                            go_wp2_with (first | (go_at_call 14; (with_reducible refine (spec_l2Full.calls a1 t109 _ A25.out).mono ?_); rintro e w' ⟨rfl, ⟨nd, rfl⟩⟩; (try first | exact ⟨rfl, _, World.drewN_drewN _ _ _⟩ | exact ⟨rfl, _, Eq.trans (World.drewN_drewN _ _ _) (congrArg (World.drewN _) (Nat.add_assoc _ _ _))⟩)))
                            repeat (go_quiet (first | (go_at_call 14; (with_reducible refine (spec_l2Full.calls a1 t109 _ A25.out).mono ?_); rintro e w' ⟨rfl, ⟨nd, rfl⟩⟩; (try first | exact ⟨rfl, _, World.drewN_drewN _ _ _⟩ | exact ⟨rfl, _, Eq.trans (World.drewN_drewN _ _ _) (congrArg (World.drewN _) (Nat.add_assoc _ _ _))⟩))); try go_wp2_with (first | (go_at_call 14; (with_reducible refine (spec_l2Full.calls a1 t109 _ A25.out).mono ?_); rintro e w' ⟨rfl, ⟨nd, rfl⟩⟩; (try first | exact ⟨rfl, _, World.drewN_drewN _ _ _⟩ | exact ⟨rfl, _, Eq.trans (World.drewN_drewN _ _ _) (congrArg (World.drewN _) (Nat.add_assoc _ _ _))⟩))))
                            go_roundg k4
                            case measure => have := HK1.out; have := HJ6.out; have := HK3.out; have := HK4.out; omega
                            case rel => exact ⟨(wrap64 (x8_3 + 1)), (by first | rfl | (simp; done) | (simp [*]; done)), H', ⟨by have := HK1.out; have := HJ6.out; have := HK3.out; have := HK4.out; omega⟩, by repeat (first | exact Drawn0.refl _ | apply Drawn0.step)⟩
                    · rw [if_neg c24] at H
                      have c24b0 : decide (x8_3 < 2) = false := decide_eq_false c24
                      clear c24
                      obtain rfl := Option.some.inj H
                      go_wp2
                      repeat (go_quiet (fail); try go_wp2)
                      go_ret
                      exact ⟨by first | rfl | (simp; done) | (simp [*]; done), by repeat (first | exact Drawn0.refl _ | apply Drawn0.step)⟩

end Go.Proofs.YtmdpjmcleckedaaDoor.Print
