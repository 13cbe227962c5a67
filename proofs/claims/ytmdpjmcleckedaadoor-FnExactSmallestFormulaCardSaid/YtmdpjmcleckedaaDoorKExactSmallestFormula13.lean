/- Functions of the given program as plain Lean functions, with proofs that their calls compute them, or lemmas on these. Laid by a program of this repo for the seat YtmdpjmcleckedaaDoor; Lean checks it. -/
import Derived.Test.YtmdpjmcleckedaaDoorKExactSmallestFormula0
import Derived.Test.YtmdpjmcleckedaaDoorKExactSmallestFormula1
import Derived.Test.YtmdpjmcleckedaaDoorKExactSmallestFormula5
import Derived.Test.YtmdpjmcleckedaaDoorKExactSmallestFormula9
import Derived.Test.YtmdpjmcleckedaaDoorKExactSmallestFormula12
import Derived.Test.YtmdpjmcleckedaaDoorM26
namespace Go.Proofs.YtmdpjmcleckedaaDoor.Print
open Go.RowKit Go.Proofs.YtmdpjmcleckedaaDoorW.PrintWords Go.Proofs.YtmdpjmcleckedaaDoorW.PrintLast Go.Proofs.YtmdpjmcleckedaaDoorW.PrintMore
attribute [local go_sem] max2_int min2_int max_two min_two max_three min_three max_four min_four   -- for this text's walks alone
set_option linter.unusedVariables false
set_option linter.unusedSimpArgs false

attribute [local go_sem high] eqA26
--IMPORT M26
/-! ### impl_Table_smallest: function 11 -/
mutual
def impl_Table_smallest.j1 : Nat → List Int → Int → Int → Option (ByteArray)
 | 0, _, _, _ => none
 | k + 1, x1, x164000, x164001 => (some (([38, 124] : List Int) : List Int)).bind fun y176 => (impl_Table_smallest.l1 k x1 y176 (y176.length : Int) 0 x164000 x164001)
def impl_Table_smallest.l1 : Nat → List Int → List Int → Int → Int → Int → Int → Option (ByteArray)
 | 0, _, _, _, _, _, _ => none
 | k + 1, x1, x53, x54, x55, x164000, x164001 => if x55 < x54 then (if 0 ≤ x55 then (if x55 < (x53.length : Int) then (impl_Table_smallest.l2 k x1 (rd x53 x55) x53 x54 x55 x1 (x1.length : Int) 0 x164000 x164001) else (none)) else (none)) else (some (⟨#[]⟩ : ByteArray))
def impl_Table_smallest.l2 : Nat → List Int → Int → List Int → Int → Int → List Int → Int → Int → Int → Int → Option (ByteArray)
 | 0, _, _, _, _, _, _, _, _, _, _ => none
 | k + 1, x1, x9, x53, x54, x55, x59, x60, x61, x164000, x164001 => if x61 < x60 then (if 0 ≤ x61 then (if x61 < (x59.length : Int) then (if (rd x59 x61) < 1 then (impl_Table_smallest.j4 k x1 x9 x61 (rd x59 x61) x53 x54 x55 x59 x60 x61 true x164000 x164001) else (if 0 ≤ x164001 then (if x164001 < (x1.length : Int) then (impl_Table_smallest.j4 k x1 x9 x61 (rd x59 x61) x53 x54 x55 x59 x60 x61 (decide ((rd x59 x61) ≥ (rd x1 x164001))) x164000 x164001) else (none)) else (none))) else (none)) else (none)) else (impl_Table_smallest.l1 k x1 x53 x54 (wrap64 (x55 + 1)) x164000 x164001)
def impl_Table_smallest.j4 : Nat → List Int → Int → Int → Int → List Int → Int → Int → List Int → Int → Int → Bool → Int → Int → Option (ByteArray)
 | 0, _, _, _, _, _, _, _, _, _, _, _, _, _ => none
 | k + 1, x1, x9, x10, x11, x53, x54, x55, x59, x60, x61, x76, x164000, x164001 => if x76 = true then (impl_Table_smallest.l2 k x1 x9 x53 x54 x55 x59 x60 (wrap64 (x61 + 1)) x164000 x164001) else (impl_Table_smallest.l3 k x1 x9 x10 x11 x53 x54 x55 x59 x60 x61 x1 (x1.length : Int) 0 x164000 x164001)
def impl_Table_smallest.l3 : Nat → List Int → Int → Int → Int → List Int → Int → Int → List Int → Int → Int → List Int → Int → Int → Int → Int → Option (ByteArray)
 | 0, _, _, _, _, _, _, _, _, _, _, _, _, _, _, _ => none
 | k + 1, x1, x9, x10, x11, x53, x54, x55, x59, x60, x61, x77, x78, x79, x164000, x164001 => if x79 < x78 then (if 0 ≤ x79 then (if x79 < (x77.length : Int) then (if x9 = 124 then (impl_Table_smallest.j6 k x1 x9 x10 x11 x79 (rd x77 x79) (Go.bits .or .i64 x10 x79) x53 x54 x55 x59 x60 x61 x77 x78 x79 x164000 x164001) else (impl_Table_smallest.j6 k x1 x9 x10 x11 x79 (rd x77 x79) (Go.bits .and .i64 x10 x79) x53 x54 x55 x59 x60 x61 x77 x78 x79 x164000 x164001)) else (none)) else (none)) else (impl_Table_smallest.l2 k x1 x9 x53 x54 x55 x59 x60 (wrap64 (x61 + 1)) x164000 x164001)
def impl_Table_smallest.j6 : Nat → List Int → Int → Int → Int → Int → Int → Int → List Int → Int → Int → List Int → Int → Int → List Int → Int → Int → Int → Int → Option (ByteArray)
 | 0, _, _, _, _, _, _, _, _, _, _, _, _, _, _, _, _, _, _ => none
 | k + 1, x1, x9, x10, x11, x12, x13, x14, x53, x54, x55, x59, x60, x61, x77, x78, x79, x164000, x164001 => if x13 ≥ 1 then (if 0 ≤ x164001 then (if x164001 < (x1.length : Int) then (if (wrap64 (x11 + x13)) = (rd x1 x164001) then (impl_Table_smallest.j7 k x1 x9 x10 x11 x12 x53 x54 x55 x59 x60 x61 x77 x78 x79 (x14 == x164001) x164000 x164001) else (impl_Table_smallest.j7 k x1 x9 x10 x11 x12 x53 x54 x55 x59 x60 x61 x77 x78 x79 false x164000 x164001)) else (none)) else (none)) else (impl_Table_smallest.j7 k x1 x9 x10 x11 x12 x53 x54 x55 x59 x60 x61 x77 x78 x79 false x164000 x164001)
def impl_Table_smallest.j7 : Nat → List Int → Int → Int → Int → Int → List Int → Int → Int → List Int → Int → Int → List Int → Int → Int → Bool → Int → Int → Option (ByteArray)
 | 0, _, _, _, _, _, _, _, _, _, _, _, _, _, _, _, _, _ => none
 | k + 1, x1, x9, x10, x11, x12, x53, x54, x55, x59, x60, x61, x77, x78, x79, x110, x164000, x164001 => if x110 = true then ((some (([x9] : List Int) : List Int)).bind fun y184 => ((impl_Table_smallest.f k x164000 x10 x1).bind fun t187 => (if (strOfNums y184).size + t187.size ≤ 9223372036854775807 then ((impl_Table_smallest.f k x164000 x12 x1).bind fun t188 => (if ((strOfNums y184) ++ t187).size + t188.size ≤ 9223372036854775807 then (some (((strOfNums y184) ++ t187) ++ t188)) else (none))) else (none)))) else (impl_Table_smallest.l3 k x1 x9 x10 x11 x53 x54 x55 x59 x60 x61 x77 x78 (wrap64 (x79 + 1)) x164000 x164001)
def impl_Table_smallest.l0 : Nat → List Int → Int → Int → Int → Int → Option (ByteArray)
 | 0, _, _, _, _, _ => none
 | k + 1, x1, x27, x28, x164000, x164001 => if x28 < x27 then ((some (([(97 + ((x28) % 256)) % 256] : List Int) : List Int)).bind fun y168 => ((impl_variable.f x164000 x28).bind fun bt171 => (if (x164000 == bt171.1 && (x164001 == bt171.2)) = true then (some (strOfNums y168)) else ((impl_Table_not.f bt171.1 bt171.2).bind fun bt174 => (if (x164000 == bt174.1 && (x164001 == bt174.2)) = true then (if 1 + (strOfNums y168).size ≤ 9223372036854775807 then (some ((⟨#[33]⟩ : ByteArray) ++ (strOfNums y168))) else (none)) else (impl_Table_smallest.l0 k x1 x27 (wrap64 (x28 + 1)) x164000 x164001)))))) else (impl_Table_smallest.j1 k x1 x164000 x164001)
def impl_Table_smallest.f : Nat → Int → Int → List Int → Option (ByteArray)
 | 0, _, _, _ => none
 | k + 1, a0_0, a0_1, l1 => (impl_Table_isSame.f a0_0 a0_1).bind fun t164 => (if t164 = true then ((impl_Table_at.f a0_0 a0_1 0).bind fun t165 => ((impl_FormatInt.f t165).bind fun t166 => (some t166))) else (if 0 ≤ a0_1 then (if a0_1 < (l1.length : Int) then (if (rd l1 a0_1) = 1 then (impl_Table_smallest.l0 k l1 a0_0 0 a0_0 a0_1) else (impl_Table_smallest.j1 k l1 a0_0 a0_1)) else (none)) else (none)))
end
theorem impl_Table_smallest.mono_l : ∀ k, (∀ y0 y1 y2, LeO (impl_Table_smallest.f k y0 y1 y2) (impl_Table_smallest.f (k + 1) y0 y1 y2)) ∧ (∀ y0 y1 y2, LeO (impl_Table_smallest.j1 k y0 y1 y2) (impl_Table_smallest.j1 (k + 1) y0 y1 y2)) ∧ (∀ y0 y1 y2 y3 y4 y5, LeO (impl_Table_smallest.l1 k y0 y1 y2 y3 y4 y5) (impl_Table_smallest.l1 (k + 1) y0 y1 y2 y3 y4 y5)) ∧ (∀ y0 y1 y2 y3 y4 y5 y6 y7 y8 y9, LeO (impl_Table_smallest.l2 k y0 y1 y2 y3 y4 y5 y6 y7 y8 y9) (impl_Table_smallest.l2 (k + 1) y0 y1 y2 y3 y4 y5 y6 y7 y8 y9)) ∧ (∀ y0 y1 y2 y3 y4 y5 y6 y7 y8 y9 y10 y11 y12, LeO (impl_Table_smallest.j4 k y0 y1 y2 y3 y4 y5 y6 y7 y8 y9 y10 y11 y12) (impl_Table_smallest.j4 (k + 1) y0 y1 y2 y3 y4 y5 y6 y7 y8 y9 y10 y11 y12)) ∧ (∀ y0 y1 y2 y3 y4 y5 y6 y7 y8 y9 y10 y11 y12 y13 y14, LeO (impl_Table_smallest.l3 k y0 y1 y2 y3 y4 y5 y6 y7 y8 y9 y10 y11 y12 y13 y14) (impl_Table_smallest.l3 (k + 1) y0 y1 y2 y3 y4 y5 y6 y7 y8 y9 y10 y11 y12 y13 y14)) ∧ (∀ y0 y1 y2 y3 y4 y5 y6 y7 y8 y9 y10 y11 y12 y13 y14 y15 y16 y17, LeO (impl_Table_smallest.j6 k y0 y1 y2 y3 y4 y5 y6 y7 y8 y9 y10 y11 y12 y13 y14 y15 y16 y17) (impl_Table_smallest.j6 (k + 1) y0 y1 y2 y3 y4 y5 y6 y7 y8 y9 y10 y11 y12 y13 y14 y15 y16 y17)) ∧ (∀ y0 y1 y2 y3 y4 y5 y6 y7 y8 y9 y10 y11 y12 y13 y14 y15 y16, LeO (impl_Table_smallest.j7 k y0 y1 y2 y3 y4 y5 y6 y7 y8 y9 y10 y11 y12 y13 y14 y15 y16) (impl_Table_smallest.j7 (k + 1) y0 y1 y2 y3 y4 y5 y6 y7 y8 y9 y10 y11 y12 y13 y14 y15 y16)) ∧ (∀ y0 y1 y2 y3 y4, LeO (impl_Table_smallest.l0 k y0 y1 y2 y3 y4) (impl_Table_smallest.l0 (k + 1) y0 y1 y2 y3 y4))
 | 0 => ⟨fun _ _ _ r h => by simp [impl_Table_smallest.f] at h, fun _ _ _ r h => by simp [impl_Table_smallest.j1] at h, fun _ _ _ _ _ _ r h => by simp [impl_Table_smallest.l1] at h, fun _ _ _ _ _ _ _ _ _ _ r h => by simp [impl_Table_smallest.l2] at h, fun _ _ _ _ _ _ _ _ _ _ _ _ _ r h => by simp [impl_Table_smallest.j4] at h, fun _ _ _ _ _ _ _ _ _ _ _ _ _ _ _ r h => by simp [impl_Table_smallest.l3] at h, fun _ _ _ _ _ _ _ _ _ _ _ _ _ _ _ _ _ _ r h => by simp [impl_Table_smallest.j6] at h, fun _ _ _ _ _ _ _ _ _ _ _ _ _ _ _ _ _ r h => by simp [impl_Table_smallest.j7] at h, fun _ _ _ _ _ r h => by simp [impl_Table_smallest.l0] at h⟩
 | k + 1 => by
  obtain ⟨ih0, ih1, ih2, ih3, ih4, ih5, ih6, ih7, ih8⟩ := impl_Table_smallest.mono_l k
  refine ⟨?_, ?_, ?_, ?_, ?_, ?_, ?_, ?_, ?_⟩
  ·intro y0 y1 y2
   unfold impl_Table_smallest.f
   repeat' first
   | (with_reducible exact ih0 _ _ _)
   | (with_reducible exact ih1 _ _ _)
   | (with_reducible exact ih2 _ _ _ _ _ _)
   | (with_reducible exact ih3 _ _ _ _ _ _ _ _ _ _)
   | (with_reducible exact ih4 _ _ _ _ _ _ _ _ _ _ _ _ _)
   | (with_reducible exact ih5 _ _ _ _ _ _ _ _ _ _ _ _ _ _ _)
   | (with_reducible exact ih6 _ _ _ _ _ _ _ _ _ _ _ _ _ _ _ _ _ _)
   | (with_reducible exact ih7 _ _ _ _ _ _ _ _ _ _ _ _ _ _ _ _ _)
   | (with_reducible exact ih8 _ _ _ _ _)
   | (with_reducible exact LeO.refl _)
   | (with_reducible exact LeO.none _)
   | (with_reducible refine LeO.ite ?_ ?_)
   | (with_reducible refine LeO.bind ?_ (fun _ => ?_))
   | exact ih0 _ _ _
   | exact ih1 _ _ _
   | exact ih2 _ _ _ _ _ _
   | exact ih3 _ _ _ _ _ _ _ _ _ _
   | exact ih4 _ _ _ _ _ _ _ _ _ _ _ _ _
   | exact ih5 _ _ _ _ _ _ _ _ _ _ _ _ _ _ _
   | exact ih6 _ _ _ _ _ _ _ _ _ _ _ _ _ _ _ _ _ _
   | exact ih7 _ _ _ _ _ _ _ _ _ _ _ _ _ _ _ _ _
   | exact ih8 _ _ _ _ _
   | exact LeO.none _
   | refine LeO.ite ?_ ?_
   | refine LeO.bind ?_ (fun _ => ?_)
  ·intro y0 y1 y2
   unfold impl_Table_smallest.j1
   repeat' first
   | (with_reducible exact ih0 _ _ _)
   | (with_reducible exact ih1 _ _ _)
   | (with_reducible exact ih2 _ _ _ _ _ _)
   | (with_reducible exact ih3 _ _ _ _ _ _ _ _ _ _)
   | (with_reducible exact ih4 _ _ _ _ _ _ _ _ _ _ _ _ _)
   | (with_reducible exact ih5 _ _ _ _ _ _ _ _ _ _ _ _ _ _ _)
   | (with_reducible exact ih6 _ _ _ _ _ _ _ _ _ _ _ _ _ _ _ _ _ _)
   | (with_reducible exact ih7 _ _ _ _ _ _ _ _ _ _ _ _ _ _ _ _ _)
   | (with_reducible exact ih8 _ _ _ _ _)
   | (with_reducible exact LeO.refl _)
   | (with_reducible exact LeO.none _)
   | (with_reducible refine LeO.ite ?_ ?_)
   | (with_reducible refine LeO.bind ?_ (fun _ => ?_))
   | exact ih0 _ _ _
   | exact ih1 _ _ _
   | exact ih2 _ _ _ _ _ _
   | exact ih3 _ _ _ _ _ _ _ _ _ _
   | exact ih4 _ _ _ _ _ _ _ _ _ _ _ _ _
   | exact ih5 _ _ _ _ _ _ _ _ _ _ _ _ _ _ _
   | exact ih6 _ _ _ _ _ _ _ _ _ _ _ _ _ _ _ _ _ _
   | exact ih7 _ _ _ _ _ _ _ _ _ _ _ _ _ _ _ _ _
   | exact ih8 _ _ _ _ _
   | exact LeO.none _
   | refine LeO.ite ?_ ?_
   | refine LeO.bind ?_ (fun _ => ?_)
  ·intro y0 y1 y2 y3 y4 y5
   unfold impl_Table_smallest.l1
   repeat' first
   | (with_reducible exact ih0 _ _ _)
   | (with_reducible exact ih1 _ _ _)
   | (with_reducible exact ih2 _ _ _ _ _ _)
   | (with_reducible exact ih3 _ _ _ _ _ _ _ _ _ _)
   | (with_reducible exact ih4 _ _ _ _ _ _ _ _ _ _ _ _ _)
   | (with_reducible exact ih5 _ _ _ _ _ _ _ _ _ _ _ _ _ _ _)
   | (with_reducible exact ih6 _ _ _ _ _ _ _ _ _ _ _ _ _ _ _ _ _ _)
   | (with_reducible exact ih7 _ _ _ _ _ _ _ _ _ _ _ _ _ _ _ _ _)
   | (with_reducible exact ih8 _ _ _ _ _)
   | (with_reducible exact LeO.refl _)
   | (with_reducible exact LeO.none _)
   | (with_reducible refine LeO.ite ?_ ?_)
   | (with_reducible refine LeO.bind ?_ (fun _ => ?_))
   | exact ih0 _ _ _
   | exact ih1 _ _ _
   | exact ih2 _ _ _ _ _ _
   | exact ih3 _ _ _ _ _ _ _ _ _ _
   | exact ih4 _ _ _ _ _ _ _ _ _ _ _ _ _
   | exact ih5 _ _ _ _ _ _ _ _ _ _ _ _ _ _ _
   | exact ih6 _ _ _ _ _ _ _ _ _ _ _ _ _ _ _ _ _ _
   | exact ih7 _ _ _ _ _ _ _ _ _ _ _ _ _ _ _ _ _
   | exact ih8 _ _ _ _ _
   | exact LeO.none _
   | refine LeO.ite ?_ ?_
   | refine LeO.bind ?_ (fun _ => ?_)
  ·intro y0 y1 y2 y3 y4 y5 y6 y7 y8 y9
   unfold impl_Table_smallest.l2
   repeat' first
   | (with_reducible exact ih0 _ _ _)
   | (with_reducible exact ih1 _ _ _)
   | (with_reducible exact ih2 _ _ _ _ _ _)
   | (with_reducible exact ih3 _ _ _ _ _ _ _ _ _ _)
   | (with_reducible exact ih4 _ _ _ _ _ _ _ _ _ _ _ _ _)
   | (with_reducible exact ih5 _ _ _ _ _ _ _ _ _ _ _ _ _ _ _)
   | (with_reducible exact ih6 _ _ _ _ _ _ _ _ _ _ _ _ _ _ _ _ _ _)
   | (with_reducible exact ih7 _ _ _ _ _ _ _ _ _ _ _ _ _ _ _ _ _)
   | (with_reducible exact ih8 _ _ _ _ _)
   | (with_reducible exact LeO.refl _)
   | (with_reducible exact LeO.none _)
   | (with_reducible refine LeO.ite ?_ ?_)
   | (with_reducible refine LeO.bind ?_ (fun _ => ?_))
   | exact ih0 _ _ _
   | exact ih1 _ _ _
   | exact ih2 _ _ _ _ _ _
   | exact ih3 _ _ _ _ _ _ _ _ _ _
   | exact ih4 _ _ _ _ _ _ _ _ _ _ _ _ _
   | exact ih5 _ _ _ _ _ _ _ _ _ _ _ _ _ _ _
   | exact ih6 _ _ _ _ _ _ _ _ _ _ _ _ _ _ _ _ _ _
   | exact ih7 _ _ _ _ _ _ _ _ _ _ _ _ _ _ _ _ _
   | exact ih8 _ _ _ _ _
   | exact LeO.none _
   | refine LeO.ite ?_ ?_
   | refine LeO.bind ?_ (fun _ => ?_)
  ·intro y0 y1 y2 y3 y4 y5 y6 y7 y8 y9 y10 y11 y12
   unfold impl_Table_smallest.j4
   repeat' first
   | (with_reducible exact ih0 _ _ _)
   | (with_reducible exact ih1 _ _ _)
   | (with_reducible exact ih2 _ _ _ _ _ _)
   | (with_reducible exact ih3 _ _ _ _ _ _ _ _ _ _)
   | (with_reducible exact ih4 _ _ _ _ _ _ _ _ _ _ _ _ _)
   | (with_reducible exact ih5 _ _ _ _ _ _ _ _ _ _ _ _ _ _ _)
   | (with_reducible exact ih6 _ _ _ _ _ _ _ _ _ _ _ _ _ _ _ _ _ _)
   | (with_reducible exact ih7 _ _ _ _ _ _ _ _ _ _ _ _ _ _ _ _ _)
   | (with_reducible exact ih8 _ _ _ _ _)
   | (with_reducible exact LeO.refl _)
   | (with_reducible exact LeO.none _)
   | (with_reducible refine LeO.ite ?_ ?_)
   | (with_reducible refine LeO.bind ?_ (fun _ => ?_))
   | exact ih0 _ _ _
   | exact ih1 _ _ _
   | exact ih2 _ _ _ _ _ _
   | exact ih3 _ _ _ _ _ _ _ _ _ _
   | exact ih4 _ _ _ _ _ _ _ _ _ _ _ _ _
   | exact ih5 _ _ _ _ _ _ _ _ _ _ _ _ _ _ _
   | exact ih6 _ _ _ _ _ _ _ _ _ _ _ _ _ _ _ _ _ _
   | exact ih7 _ _ _ _ _ _ _ _ _ _ _ _ _ _ _ _ _
   | exact ih8 _ _ _ _ _
   | exact LeO.none _
   | refine LeO.ite ?_ ?_
   | refine LeO.bind ?_ (fun _ => ?_)
  ·intro y0 y1 y2 y3 y4 y5 y6 y7 y8 y9 y10 y11 y12 y13 y14
   unfold impl_Table_smallest.l3
   repeat' first
   | (with_reducible exact ih0 _ _ _)
   | (with_reducible exact ih1 _ _ _)
   | (with_reducible exact ih2 _ _ _ _ _ _)
   | (with_reducible exact ih3 _ _ _ _ _ _ _ _ _ _)
   | (with_reducible exact ih4 _ _ _ _ _ _ _ _ _ _ _ _ _)
   | (with_reducible exact ih5 _ _ _ _ _ _ _ _ _ _ _ _ _ _ _)
   | (with_reducible exact ih6 _ _ _ _ _ _ _ _ _ _ _ _ _ _ _ _ _ _)
   | (with_reducible exact ih7 _ _ _ _ _ _ _ _ _ _ _ _ _ _ _ _ _)
   | (with_reducible exact ih8 _ _ _ _ _)
   | (with_reducible exact LeO.refl _)
   | (with_reducible exact LeO.none _)
   | (with_reducible refine LeO.ite ?_ ?_)
   | (with_reducible refine LeO.bind ?_ (fun _ => ?_))
   | exact ih0 _ _ _
   | exact ih1 _ _ _
   | exact ih2 _ _ _ _ _ _
   | exact ih3 _ _ _ _ _ _ _ _ _ _
   | exact ih4 _ _ _ _ _ _ _ _ _ _ _ _ _
   | exact ih5 _ _ _ _ _ _ _ _ _ _ _ _ _ _ _
   | exact ih6 _ _ _ _ _ _ _ _ _ _ _ _ _ _ _ _ _ _
   | exact ih7 _ _ _ _ _ _ _ _ _ _ _ _ _ _ _ _ _
   | exact ih8 _ _ _ _ _
   | exact LeO.none _
   | refine LeO.ite ?_ ?_
   | refine LeO.bind ?_ (fun _ => ?_)
  ·intro y0 y1 y2 y3 y4 y5 y6 y7 y8 y9 y10 y11 y12 y13 y14 y15 y16 y17
   unfold impl_Table_smallest.j6
   repeat' first
   | (with_reducible exact ih0 _ _ _)
   | (with_reducible exact ih1 _ _ _)
   | (with_reducible exact ih2 _ _ _ _ _ _)
   | (with_reducible exact ih3 _ _ _ _ _ _ _ _ _ _)
   | (with_reducible exact ih4 _ _ _ _ _ _ _ _ _ _ _ _ _)
   | (with_reducible exact ih5 _ _ _ _ _ _ _ _ _ _ _ _ _ _ _)
   | (with_reducible exact ih6 _ _ _ _ _ _ _ _ _ _ _ _ _ _ _ _ _ _)
   | (with_reducible exact ih7 _ _ _ _ _ _ _ _ _ _ _ _ _ _ _ _ _)
   | (with_reducible exact ih8 _ _ _ _ _)
   | (with_reducible exact LeO.refl _)
   | (with_reducible exact LeO.none _)
   | (with_reducible refine LeO.ite ?_ ?_)
   | (with_reducible refine LeO.bind ?_ (fun _ => ?_))
   | exact ih0 _ _ _
   | exact ih1 _ _ _
   | exact ih2 _ _ _ _ _ _
   | exact ih3 _ _ _ _ _ _ _ _ _ _
   | exact ih4 _ _ _ _ _ _ _ _ _ _ _ _ _
   | exact ih5 _ _ _ _ _ _ _ _ _ _ _ _ _ _ _
   | exact ih6 _ _ _ _ _ _ _ _ _ _ _ _ _ _ _ _ _ _
   | exact ih7 _ _ _ _ _ _ _ _ _ _ _ _ _ _ _ _ _
   | exact ih8 _ _ _ _ _
   | exact LeO.none _
   | refine LeO.ite ?_ ?_
   | refine LeO.bind ?_ (fun _ => ?_)
  ·intro y0 y1 y2 y3 y4 y5 y6 y7 y8 y9 y10 y11 y12 y13 y14 y15 y16
   unfold impl_Table_smallest.j7
   repeat' first
   | (with_reducible exact ih0 _ _ _)
   | (with_reducible exact ih1 _ _ _)
   | (with_reducible exact ih2 _ _ _ _ _ _)
   | (with_reducible exact ih3 _ _ _ _ _ _ _ _ _ _)
   | (with_reducible exact ih4 _ _ _ _ _ _ _ _ _ _ _ _ _)
   | (with_reducible exact ih5 _ _ _ _ _ _ _ _ _ _ _ _ _ _ _)
   | (with_reducible exact ih6 _ _ _ _ _ _ _ _ _ _ _ _ _ _ _ _ _ _)
   | (with_reducible exact ih7 _ _ _ _ _ _ _ _ _ _ _ _ _ _ _ _ _)
   | (with_reducible exact ih8 _ _ _ _ _)
   | (with_reducible exact LeO.refl _)
   | (with_reducible exact LeO.none _)
   | (with_reducible refine LeO.ite ?_ ?_)
   | (with_reducible refine LeO.bind ?_ (fun _ => ?_))
   | exact ih0 _ _ _
   | exact ih1 _ _ _
   | exact ih2 _ _ _ _ _ _
   | exact ih3 _ _ _ _ _ _ _ _ _ _
   | exact ih4 _ _ _ _ _ _ _ _ _ _ _ _ _
   | exact ih5 _ _ _ _ _ _ _ _ _ _ _ _ _ _ _
   | exact ih6 _ _ _ _ _ _ _ _ _ _ _ _ _ _ _ _ _ _
   | exact ih7 _ _ _ _ _ _ _ _ _ _ _ _ _ _ _ _ _
   | exact ih8 _ _ _ _ _
   | exact LeO.none _
   | refine LeO.ite ?_ ?_
   | refine LeO.bind ?_ (fun _ => ?_)
  ·intro y0 y1 y2 y3 y4
   unfold impl_Table_smallest.l0
   repeat' first
   | (with_reducible exact ih0 _ _ _)
   | (with_reducible exact ih1 _ _ _)
   | (with_reducible exact ih2 _ _ _ _ _ _)
   | (with_reducible exact ih3 _ _ _ _ _ _ _ _ _ _)
   | (with_reducible exact ih4 _ _ _ _ _ _ _ _ _ _ _ _ _)
   | (with_reducible exact ih5 _ _ _ _ _ _ _ _ _ _ _ _ _ _ _)
   | (with_reducible exact ih6 _ _ _ _ _ _ _ _ _ _ _ _ _ _ _ _ _ _)
   | (with_reducible exact ih7 _ _ _ _ _ _ _ _ _ _ _ _ _ _ _ _ _)
   | (with_reducible exact ih8 _ _ _ _ _)
   | (with_reducible exact LeO.refl _)
   | (with_reducible exact LeO.none _)
   | (with_reducible refine LeO.ite ?_ ?_)
   | (with_reducible refine LeO.bind ?_ (fun _ => ?_))
   | exact ih0 _ _ _
   | exact ih1 _ _ _
   | exact ih2 _ _ _ _ _ _
   | exact ih3 _ _ _ _ _ _ _ _ _ _
   | exact ih4 _ _ _ _ _ _ _ _ _ _ _ _ _
   | exact ih5 _ _ _ _ _ _ _ _ _ _ _ _ _ _ _
   | exact ih6 _ _ _ _ _ _ _ _ _ _ _ _ _ _ _ _ _ _
   | exact ih7 _ _ _ _ _ _ _ _ _ _ _ _ _ _ _ _ _
   | exact ih8 _ _ _ _ _
   | exact LeO.none _
   | refine LeO.ite ?_ ?_
   | refine LeO.bind ?_ (fun _ => ?_)
theorem impl_Table_smallest.mono : ∀ a0 a1 a2 k, LeO (impl_Table_smallest.f k a0 a1 a2) (impl_Table_smallest.f (k + 1) a0 a1 a2) := by
 intro a0 a1 a2 k
 obtain ⟨ih0, ih1, ih2, ih3, ih4, ih5, ih6, ih7, ih8⟩ := impl_Table_smallest.mono_l k
 exact ih0 a0 a1 a2
def impl_Table_smallest.T29 : Bool × List (List Nat × List Nat) := (true, [([], []), ([0], [0]), ([1], [1]), ([], []), ([3], [3]), ([], []), ([4, 5], [4, 5]), ([], []), ([6, 7], [6, 7]), ([2, 8], [2, 8]), ([], []), ([10], [10]), ([], []), ([11, 12], [11, 12]), ([], []), ([13, 14, 8], [13, 14]), ([9, 15], [9, 15]), ([16, 15, 0, 1, 2, 3, 4, 5, 6, 7, 8, 9, 10, 11, 12, 13, 14, 15, 16], [16])])
def impl_Table_smallest.B29 : List Nat := [0, 1, 3, 0, 8, 0, 56, 0, 248, 511, 0, 1024, 0, 7168, 0, 32248, 65535, 131071]
theorem impl_Table_smallest.tab29 : rtab .any (opsOf Tryd.f11 29) = impl_Table_smallest.T29 := by kernel_rfl
theorem impl_Table_smallest.bits29 : waitsOk impl_Table_smallest.T29.2 impl_Table_smallest.B29 = true := by kernel_rfl
set_option maxHeartbeats 8000000 in
set_option maxRecDepth 100000 in
theorem impl_Table_smallest.calls (k : Nat) : ∀ (a0_0 : Int) (a0_1 : Int) (P1_ : Nat → Prop) (A1 : Option Addr) (c1 : Nat) (l1 : List Int) (r : ByteArray) (w : World) (hs1 : Kd.V (Kd.int .i64) 3 w w.heap.size (fun k_ => P1_ k_) (.slice A1 l1.length c1) l1) (h : impl_Table_smallest.f k a0_0 a0_1 l1 = some r),
  Calls Tryd.prog 11 #[.agg #[.int .i64 a0_0, .int .i64 a0_1], .slice A1 l1.length c1] w fun e w' => e = .returned (.string r) ∧ Below w.heap.size w w' := by
 induction k using Nat.strongRecOn with
 | _ k ih =>
 intro a0_0 a0_1 P1_ A1 c1 l1 r w hs1 h
 cases k with
 | zero => exact absurd h (by simp [impl_Table_smallest.f])
 | succ k =>
 simp only [impl_Table_smallest.f] at h
 have hu26 := Tryd.underlying26
 have HO1 := Aside0.mk (show Kd.V (Kd.int .i64) 3 w w.heap.size (fun k_ => (P1_ k_ ∨ w.heap.size ≤ k_)) (.slice A1 l1.length c1) l1 from Kd.V_mono hs1 (fun k_ hk => .inl hk))
 have HB := Aside0.mk (Below.refl w.heap.size w)
 have H : ((impl_Table_isSame.f a0_0 a0_1).bind fun t164 => (if t164 = true then ((impl_Table_at.f a0_0 a0_1 0).bind fun t165 => ((impl_FormatInt.f t165).bind fun t166 => (some t166))) else (if 0 ≤ a0_1 then (if a0_1 < (l1.length : Int) then (if (rd l1 a0_1) = 1 then (impl_Table_smallest.l0 k l1 a0_0 0 a0_0 a0_1) else (impl_Table_smallest.j1 k l1 a0_0 a0_1)) else (none)) else (none)))) = some r := h
 clear h; replace H := Option.bind_eq_some_iff.mp H; obtain ⟨t164, A30, H⟩ := H; (try dsimp only at H); have A3 := Aside0.mk A30; clear A30
 by_cases c4 : t164 = true
 ·subst c4
  have H1 : ((impl_Table_at.f a0_0 a0_1 0).bind fun t165 => ((impl_FormatInt.f t165).bind fun t166 => (some t166))) = some r := by rw [if_pos rfl] at H; exact H
  clear H; have H := H1; clear H1; replace H := Option.bind_eq_some_iff.mp H; obtain ⟨t165, A50, H⟩ := H
  replace H : ((impl_FormatInt.f t165).bind fun t166 => (some t166)) = some r := H
  have A5 := Aside0.mk A50; clear A50; replace H := Option.bind_eq_some_iff.mp H; obtain ⟨t166, A60, H⟩ := H
  replace H : (some t166) = some r := H
  have A6 := Aside0.mk A60; clear A60
  obtain rfl := Option.some.inj H
  go_enter Tryd.func11, Tryd.ntmps11
  go_wp2_with (first | ((with_reducible refine gate_dst (N := 2) rfl ?_); refine box_event ?hg (N := 2) ?hd (cs := #[.int .i64 a0_0, .int .i64 a0_1]) (t := 26) ?hr ?_; (case hd => rfl); (case hg => rfl); (case hr => first | (go_simp; done) | (go_simp; rfl)); intro gb163 hg w7 hbox hb; have n0_ := Aside0.mk (Kd.V_below (Kd.V_elderB (by (with_reducible repeat (first | apply Kd.V_alloc | apply Kd.V_drewN | apply Kd.V_drew)); exact HO1.out) gb163 (Nat.le_of_eq hg.symm)) hb); have n1_ := Aside0.mk (below_step (by repeat (first | (with_reducible first | exact HB.out | apply below_alloc | apply pw_below_drewN | apply below_drew1) | exact HB.out)) hb); have n2_ := Aside0.mk (hbox); have n3_ := Aside0.mk ((by rw [hg]; exact (below_size (by repeat (first | (with_reducible first | exact HB.out | apply below_alloc | apply pw_below_drewN | apply below_drew1) | exact HB.out))) : w.heap.size ≤ gb163)); have n4_ := Aside0.mk ((by rw [hg]; exact (below_size (by repeat (first | (with_reducible first | exact HB.out | apply below_alloc | apply pw_below_drewN | apply below_drew1) | exact HB.out))) : w.heap.size ≤ gb163)); clear HO1; clear HB; have HO1 := n0_; have HB := n1_; have BK163 := n2_; have GW163 := n3_; have GE163 := n4_; clear n0_ n1_ n2_ n3_ n4_; clear hb hbox hg; have hcz8_0 : w7.cell? ⟨gb163, 0, none⟩ = some (.int .i64 a0_0) := (blk_cell BK163.out 0).trans rfl; have hcz8_1 : w7.cell? ⟨gb163, 1, none⟩ = some (.int .i64 a0_1) := (blk_cell BK163.out 1).trans rfl; have hfz8_0 := blk_frozen BK163.out 0; have hfz8_1 := blk_frozen BK163.out 1) | ((with_reducible refine gate_callee (f := 17) rfl ?_); refine goesL_ (some 16) rfl rfl Tryd.func17 (by kernel_rfl) rfl #[.agg #[.int .i64 a0_0, .int .i64 a0_1]] rfl (by first | rfl | (simp only [List.map_toArray, List.map_cons, List.map_nil, List.length_drop, List.length_take]; rfl)) ?_; (with_reducible refine (impl_Table_isSame.calls a0_0 a0_1 true _ A3.out).mono ?_); rintro e w9 ⟨rfl, hb⟩; refine ⟨_, rfl, ?_⟩; have n0_ := Aside0.mk (Kd.V_below (by (with_reducible repeat (first | apply Kd.V_alloc | apply Kd.V_drewN | apply Kd.V_drew)); exact HO1.out) hb); have n1_ := Aside0.mk (blk_below (g := gb163) (o := .cells #[.int .i64 a0_0, .int .i64 a0_1] 26 (0, 0)) (by (with_reducible repeat (first | refine blk_drewN ?_ _ | refine blk_drew ?_ | refine blk_alloc ?_ _)); exact BK163.out) hb); have n2_ := Aside0.mk (below_step (by repeat (first | (with_reducible first | exact HB.out | apply below_alloc | apply pw_below_drewN | apply below_drew1 | refine below_set ?_ GE163.out) | exact HB.out)) hb); clear HO1; clear BK163; clear HB; have HO1 := n0_; have BK163 := n1_; have HB := n2_; clear n0_ n1_ n2_; (try clear hb); (try clear hb2); (try clear hk); (try clear hi); have hcz10_0 : w9.cell? ⟨gb163, 0, none⟩ = some (.int .i64 a0_0) := (blk_cell BK163.out 0).trans rfl; have hcz10_1 : w9.cell? ⟨gb163, 1, none⟩ = some (.int .i64 a0_1) := (blk_cell BK163.out 1).trans rfl; have hfz10_0 := blk_frozen BK163.out 0; have hfz10_1 := blk_frozen BK163.out 1) | ((with_reducible refine gate_callee (f := 19) rfl ?_); refine goesL_ (some 18) rfl rfl Tryd.func19 (by kernel_rfl) rfl #[.agg #[.int .i64 a0_0, .int .i64 a0_1], .int .i64 0] rfl (by first | rfl | (simp only [List.map_toArray, List.map_cons, List.map_nil, List.length_drop, List.length_take]; rfl)) ?_; (with_reducible refine (impl_Table_at.calls a0_0 a0_1 0 t165 _ A5.out).mono ?_); rintro e w11 ⟨rfl, hb⟩; refine ⟨_, rfl, ?_⟩; have n0_ := Aside0.mk (Kd.V_below (by (with_reducible repeat (first | apply Kd.V_alloc | apply Kd.V_drewN | apply Kd.V_drew)); exact HO1.out) hb); have n1_ := Aside0.mk (blk_below (g := gb163) (o := .cells #[.int .i64 a0_0, .int .i64 a0_1] 26 (0, 0)) (by (with_reducible repeat (first | refine blk_drewN ?_ _ | refine blk_drew ?_ | refine blk_alloc ?_ _)); exact BK163.out) hb); have n2_ := Aside0.mk (below_step (by repeat (first | (with_reducible first | exact HB.out | apply below_alloc | apply pw_below_drewN | apply below_drew1 | refine below_set ?_ GE163.out) | exact HB.out)) hb); clear HO1; clear BK163; clear HB; have HO1 := n0_; have BK163 := n1_; have HB := n2_; clear n0_ n1_ n2_; (try clear hb); (try clear hb2); (try clear hk); (try clear hi)) | ((with_reducible refine gate_callee (f := 18) rfl ?_); refine goesL_ (some 19) rfl rfl Tryd.func18 (by kernel_rfl) rfl #[.int .i64 t165] rfl (by first | rfl | (simp only [List.map_toArray, List.map_cons, List.map_nil, List.length_drop, List.length_take]; rfl)) ?_; (with_reducible refine (impl_FormatInt.calls t165 t166 _ A6.out).mono ?_); rintro e w' ⟨rfl, ⟨nd, rfl⟩⟩; refine ⟨_, rfl, ?_⟩))
  go_ret
  exact ⟨by first | rfl | (simp [errW_none, errW_some] <;> rfl) | (simp [*, errW_none, errW_some] <;> rfl), by repeat (first | (with_reducible first | exact HB.out | apply below_alloc | apply pw_below_drewN | apply below_drew1 | refine below_set ?_ GE163.out) | exact HB.out)⟩
 ·replace c4 := Bool.eq_false_iff.mpr c4
  subst c4
  have H1 : (if 0 ≤ a0_1 then (if a0_1 < (l1.length : Int) then (if (rd l1 a0_1) = 1 then (impl_Table_smallest.l0 k l1 a0_0 0 a0_0 a0_1) else (impl_Table_smallest.j1 k l1 a0_0 a0_1)) else (none)) else (none)) = some r := by rw [if_neg (show ¬ (false = true) by decide)] at H; exact H
  clear H; have H := H1; clear H1
  by_cases c12 : 0 ≤ a0_1
  ·rw [if_pos c12] at H
   have c12b0 : decide (0 ≤ a0_1) = true := decide_eq_true c12
   clear c12
   by_cases c13 : a0_1 < (l1.length : Int)
   ·rw [if_pos c13] at H
    have c13b0 : decide (a0_1 < (l1.length : Int)) = true := decide_eq_true c13
    clear c13; have HC14 := Aside0.mk H; clear H
    go_enter Tryd.func11, Tryd.ntmps11
    go_upto_if 25 with (first | ((with_reducible refine gate_dst (N := 2) rfl ?_); refine box_event ?hg (N := 2) ?hd (cs := #[.int .i64 a0_0, .int .i64 a0_1]) (t := 26) ?hr ?_; (case hd => rfl); (case hg => rfl); (case hr => first | (go_simp; done) | (go_simp; rfl)); intro gb163 hg w15 hbox hb; have n0_ := Aside0.mk (Kd.V_below (Kd.V_elderB (by (with_reducible repeat (first | apply Kd.V_alloc | apply Kd.V_drewN | apply Kd.V_drew)); exact HO1.out) gb163 (Nat.le_of_eq hg.symm)) hb); have n1_ := Aside0.mk (below_step (by repeat (first | (with_reducible first | exact HB.out | apply below_alloc | apply pw_below_drewN | apply below_drew1) | exact HB.out)) hb); have n2_ := Aside0.mk (hbox); have n3_ := Aside0.mk ((by rw [hg]; exact (below_size (by repeat (first | (with_reducible first | exact HB.out | apply below_alloc | apply pw_below_drewN | apply below_drew1) | exact HB.out))) : w.heap.size ≤ gb163)); have n4_ := Aside0.mk ((by rw [hg]; exact (below_size (by repeat (first | (with_reducible first | exact HB.out | apply below_alloc | apply pw_below_drewN | apply below_drew1) | exact HB.out))) : w.heap.size ≤ gb163)); clear HO1; clear HB; have HO1 := n0_; have HB := n1_; have BK163 := n2_; have GW163 := n3_; have GE163 := n4_; clear n0_ n1_ n2_ n3_ n4_; clear hb hbox hg; have hcz16_0 : w15.cell? ⟨gb163, 0, none⟩ = some (.int .i64 a0_0) := (blk_cell BK163.out 0).trans rfl; have hcz16_1 : w15.cell? ⟨gb163, 1, none⟩ = some (.int .i64 a0_1) := (blk_cell BK163.out 1).trans rfl; have hfz16_0 := blk_frozen BK163.out 0; have hfz16_1 := blk_frozen BK163.out 1) | ((with_reducible refine gate_callee (f := 17) rfl ?_); refine goesL_ (some 16) rfl rfl Tryd.func17 (by kernel_rfl) rfl #[.agg #[.int .i64 a0_0, .int .i64 a0_1]] rfl (by first | rfl | (simp only [List.map_toArray, List.map_cons, List.map_nil, List.length_drop, List.length_take]; rfl)) ?_; (with_reducible refine (impl_Table_isSame.calls a0_0 a0_1 false _ A3.out).mono ?_); rintro e w17 ⟨rfl, hb⟩; refine ⟨_, rfl, ?_⟩; have n0_ := Aside0.mk (Kd.V_below (by (with_reducible repeat (first | apply Kd.V_alloc | apply Kd.V_drewN | apply Kd.V_drew)); exact HO1.out) hb); have n1_ := Aside0.mk (blk_below (g := gb163) (o := .cells #[.int .i64 a0_0, .int .i64 a0_1] 26 (0, 0)) (by (with_reducible repeat (first | refine blk_drewN ?_ _ | refine blk_drew ?_ | refine blk_alloc ?_ _)); exact BK163.out) hb); have n2_ := Aside0.mk (below_step (by repeat (first | (with_reducible first | exact HB.out | apply below_alloc | apply pw_below_drewN | apply below_drew1 | refine below_set ?_ GE163.out) | exact HB.out)) hb); clear HO1; clear BK163; clear HB; have HO1 := n0_; have BK163 := n1_; have HB := n2_; clear n0_ n1_ n2_; (try clear hb); (try clear hb2); (try clear hk); (try clear hi); have hcz18_0 : w17.cell? ⟨gb163, 0, none⟩ = some (.int .i64 a0_0) := (blk_cell BK163.out 0).trans rfl; have hcz18_1 : w17.cell? ⟨gb163, 1, none⟩ = some (.int .i64 a0_1) := (blk_cell BK163.out 1).trans rfl; have hfz18_0 := blk_frozen BK163.out 0; have hfz18_1 := blk_frozen BK163.out 1; have p167 : 0 ≤ (a0_1 : Int) := of_decide_eq_true (by first | (with_reducible assumption) | assumption); have q167 : a0_1 < (l1.length : Int) := of_decide_eq_true (by first | (with_reducible assumption) | assumption); obtain ⟨ad167, e167, hx167_0⟩ := Kd.at_int (Kd.V_reads' HO1.out).2.2 a0_1 p167 q167; cases e167; replace p167 := eq_true p167; replace q167 := eq_true q167))
    (try simp only [Act.put, List.setIfInBounds_toArray, List.set_cons_zero, List.set_cons_succ])
    go_cut [] (fun wc => ∃ (kq : Nat), Aside0 (impl_Table_smallest.j1 kq l1 a0_0 a0_1 = some r) ∧ Aside0 (kq ≤ k) ∧ Aside0 (Kd.V (Kd.int .i64) 3 wc w.heap.size (fun k_ => (P1_ k_ ∨ w.heap.size ≤ k_) ∧ k_ ≠ gb163) (.slice (some ad167) l1.length c1) l1) ∧ Aside0 (wc.heap[gb163]? = some (.cells #[.int .i64 a0_0, .int .i64 a0_1] 26 (0, 0))) ∧ Aside0 (Below w.heap.size w wc))
    case first =>
     as_aux_lemma =>
     have H := HC14.out
     clear HC14
     by_cases c19 : (rd l1 a0_1) = 1
     ·rw [if_pos c19] at H
      have c19b0 : ((rd l1 a0_1) == 1) = true := beq_iff_eq.mpr c19
      have c19b1 : ((rd l1 a0_1) != 1) = false := bne_eq_false_iff_eq.mpr c19
      clear c19
      (first | rw [c19b0] | (simp only [i64_w, i32_w]; rw [c19b0]) | skip)
      have H' := Aside0.mk H
      clear H
      have hcz20_0 : w17.cell? ⟨gb163, 0, none⟩ = some (.int .i64 a0_0) := (blk_cell BK163.out 0).trans rfl
      have hcz20_1 : w17.cell? ⟨gb163, 1, none⟩ = some (.int .i64 a0_1) := (blk_cell BK163.out 1).trans rfl
      have hfz20_0 := blk_frozen BK163.out 0
      have hfz20_1 := blk_frozen BK163.out 1
      go_wp2
      go_loopg [28] k (fun kq v28 w' => ∃ (x28_1 : Int), v28 = .int .i64 x28_1 ∧ Aside0 (impl_Table_smallest.l0 kq l1 a0_0 x28_1 a0_0 a0_1 = some r) ∧ Aside0 (kq ≤ k) ∧ Aside0 (Kd.V (Kd.int .i64) 3 w' w.heap.size (fun k_ => (P1_ k_ ∨ w.heap.size ≤ k_) ∧ k_ ≠ gb163) (.slice (some ad167) l1.length c1) l1) ∧ Aside0 (w'.heap[gb163]? = some (.cells #[.int .i64 a0_0, .int .i64 a0_1] 26 (0, 0))) ∧ Aside0 (Below w.heap.size w w'))
      case atStart => exact ⟨(0), (by first | rfl | (simp; done) | (simp [*]; done)), H', ⟨Nat.le_refl _⟩, ⟨by (with_reducible repeat (first | apply Kd.V_alloc | apply Kd.V_drewN | apply Kd.V_drew)); exact HO1.out⟩, ⟨by (with_reducible repeat (first | refine blk_drewN ?_ _ | refine blk_drew ?_ | refine blk_alloc ?_ _)); exact BK163.out⟩, ⟨by repeat (first | (with_reducible first | exact HB.out | apply below_alloc | apply pw_below_drewN | apply below_drew1 | refine below_set ?_ GE163.out) | exact HB.out)⟩⟩
      case round =>
       as_aux_lemma =>
       clear H'; (try clear c1); (try clear p1); (try clear q1); (try clear hx1); (try clear p2); (try clear c4); (try clear c11); (try clear c12); (try clear c12b0); (try clear c13); (try clear c13b0); (try clear p16); (try clear q16); (try clear hx16); (try clear c17); (try clear c18); (try clear c19); (try clear c19b0); (try clear c19b1); (try clear hcz10_0); (try clear hcz10_1); (try clear hcz16_0); (try clear hcz16_1); (try clear hcz18_0); (try clear hcz18_1); (try clear hcz20_0); (try clear hcz20_1); (try clear hcz8_0); (try clear hcz8_1); (try clear hfz10_0); (try clear hfz10_1); (try clear hfz16_0)
       (try clear hfz16_1); (try clear hfz18_0); (try clear hfz18_1); (try clear hfz20_0); (try clear hfz20_1); (try clear hfz8_0); (try clear hfz8_1); (try clear hx167_0); (try clear p167); (try clear q167); obtain ⟨x28_1, rfl, HA, HK1, HO_1, BK163, HB⟩ := hrel
       cases gk with
       | zero => exact absurd HA.out (by simp [impl_Table_smallest.l0])
       | succ k1 =>
        have H := HA.out
        clear HA
        simp only [impl_Table_smallest.l0] at H
        by_cases c21 : x28_1 < a0_0
        ·rw [if_pos c21] at H
         have c21b0 : decide (x28_1 < a0_0) = true := decide_eq_true c21
         clear c21
         obtain ⟨y168, hy168⟩ : ∃ y_ : List Int, y_ = (([(97 + ((x28_1) % 256)) % 256] : List Int)) := ⟨_, rfl⟩
         replace H : ((impl_variable.f a0_0 x28_1).bind fun bt171 => (if (a0_0 == bt171.1 && (a0_1 == bt171.2)) = true then (some (strOfNums y168)) else ((impl_Table_not.f bt171.1 bt171.2).bind fun bt174 => (if (a0_0 == bt174.1 && (a0_1 == bt174.2)) = true then (if 1 + (strOfNums y168).size ≤ 9223372036854775807 then (some ((⟨#[33]⟩ : ByteArray) ++ (strOfNums y168))) else (none)) else (impl_Table_smallest.l0 k1 l1 a0_0 (wrap64 (x28_1 + 1)) a0_0 a0_1))))) = some r := by first | (rw [hy168]; with_reducible exact H) | (have H2_ := (Option.bind_some _ _).symm.trans H; rw [hy168]; with_reducible exact H2_) | (have H2_ := (Option.bind_some _ _).symm.trans H; with_reducible exact H2_) | with_reducible exact H | (rw [hy168]; exact H) | exact H
         have Ny168 := Aside0.mk hy168; clear hy168; replace H := Option.bind_eq_some_iff.mp H; obtain ⟨⟨t171, t172⟩, A220, H⟩ := H; (try dsimp only at H); have A22 := Aside0.mk A220; clear A220
         by_cases c23 : (a0_0 == t171 && (a0_1 == t172)) = true
         ·rw [if_pos c23] at H
          have c23b0 : (a0_0 == t171 && (a0_1 == t172)) = true := c23
          (try (have c23b1 : decide (a0_0 = t171 && (a0_1 == t172)) = true := by simpa using c23))
          (try (have c23b2 : (a0_0 == t171 && (a0_1 == t172)) = true := by simpa using c23))
          clear c23
          obtain rfl := Option.some.inj H
          go_wp2_with (first | ((with_reducible refine gate_dst (N := 34) rfl ?_); refine Kd.R_lit (Kd.int .u8) _ 5 ?hg (N := 34) ?hd (xs := ([(97 + ((x28_1) % 256)) % 256] : List Int)) (inner := [.int .u8 ((97 + ((x28_1) % 256)) % 256)]) (ok := fun _ => True) (okp := fun _ => True) ?hr ?hp (fun _ hk => hk) trivial (Below.refl _ _) (Nat.le_refl _) (by simp) ?_; (case hd => rfl); (case hg => rfl); (case hr => first | (go_simp; done) | (go_simp; rfl)); (case hp => exact (Reps.one (show Kd.M (Kd.int .u8) _ _ _ ((97 + ((x28_1) % 256)) % 256) [.int .u8 ((97 + ((x28_1) % 256)) % 256)] from rfl) (Reps.none _ _))); intro v169 w24 ho25 hb hg_ hnew_; clear hg_ hnew_; (first | rw [← Ny168.out] at ho25 | (simp only [Int.reduceToNat] at ho25; rw [← Ny168.out] at ho25)); have n0_ := Aside0.mk (Kd.V_elder' (by (with_reducible repeat (first | apply Kd.V_alloc | apply Kd.V_drewN | apply Kd.V_drew)); exact HO_1.out) (Kd.R_base ho25) hb); have n1_ := Aside0.mk (Kd.R_lower (Kd.R_newM (M := fun k_ => (w.heap.size ≤ k_)) ho25 (below_size (by repeat (first | (with_reducible first | exact HB.out | apply below_alloc | apply pw_below_drewN | apply below_drew1 | refine below_set ?_ GE163.out) | exact HB.out))) (fun k_ h_ => h_)) (below_size (by repeat (first | (with_reducible first | exact HB.out | apply below_alloc | apply pw_below_drewN | apply below_drew1 | refine below_set ?_ GE163.out) | exact HB.out)))); have n2_ := Aside0.mk (blk_below (g := gb163) (o := .cells #[.int .i64 a0_0, .int .i64 a0_1] 26 (0, 0)) (by (with_reducible repeat (first | refine blk_drewN ?_ _ | refine blk_drew ?_ | refine blk_alloc ?_ _)); exact BK163.out) hb); have n3_ := Aside0.mk (below_step (by repeat (first | (with_reducible first | exact HB.out | apply below_alloc | apply pw_below_drewN | apply below_drew1 | refine below_set ?_ GE163.out) | exact HB.out)) hb); clear HO_1; clear BK163; clear HB; have HO_1 := n0_; have HO170 := n1_; have BK163 := n2_; have HB := n3_; clear n0_ n1_ n2_ n3_; clear hb ho25; have hcv26 := own_string (P := Tryd.prog) Tryd.underlying42 Tryd.underlying5 Tryd.underlying9 (Kd.own_of_R HO170.out); have hcz27_0 : w24.cell? ⟨gb163, 0, none⟩ = some (.int .i64 a0_0) := (blk_cell BK163.out 0).trans rfl; have hcz27_1 : w24.cell? ⟨gb163, 1, none⟩ = some (.int .i64 a0_1) := (blk_cell BK163.out 1).trans rfl; have hfz27_0 := blk_frozen BK163.out 0; have hfz27_1 := blk_frozen BK163.out 1) | ((with_reducible refine gate_callee (f := 20) rfl ?_); refine goesL_ (some 39) rfl rfl Tryd.func20 (by kernel_rfl) rfl #[.int .i64 a0_0, .int .i64 x28_1] rfl (by first | rfl | (simp only [List.map_toArray, List.map_cons, List.map_nil, List.length_drop, List.length_take]; rfl)) ?_; (with_reducible refine (impl_variable.calls a0_0 x28_1 t171 t172 _ A22.out).mono ?_); rintro e w28 ⟨rfl, hb⟩; refine ⟨_, rfl, ?_⟩; have n0_ := Aside0.mk (Kd.V_below (by (with_reducible repeat (first | apply Kd.V_alloc | apply Kd.V_drewN | apply Kd.V_drew)); exact HO_1.out) hb); have n1_ := Aside0.mk (Kd.R_below (by (with_reducible repeat (first | apply Kd.R_alloc | apply Kd.R_drewN | apply Kd.R_drew)); exact HO170.out) hb); have n2_ := Aside0.mk (blk_below (g := gb163) (o := .cells #[.int .i64 a0_0, .int .i64 a0_1] 26 (0, 0)) (by (with_reducible repeat (first | refine blk_drewN ?_ _ | refine blk_drew ?_ | refine blk_alloc ?_ _)); exact BK163.out) hb); have n3_ := Aside0.mk (below_step (by repeat (first | (with_reducible first | exact HB.out | apply below_alloc | apply pw_below_drewN | apply below_drew1 | refine below_set ?_ GE163.out) | exact HB.out)) hb); clear HO_1; clear HO170; clear BK163; clear HB; have HO_1 := n0_; have HO170 := n1_; have BK163 := n2_; have HB := n3_; clear n0_ n1_ n2_ n3_; (try clear hb); (try clear hb2); (try clear hk); (try clear hi)) | ((with_reducible refine gate_dst (N := 7) rfl ?_); refine box_event ?hg (N := 7) ?hd (cs := #[.int .i64 0, .int .i64 0]) (t := 26) ?hr ?_; (case hd => rfl); (case hg => rfl); (case hr => first | (go_simp; done) | (go_simp; rfl)); intro gb173 hg w29 hbox hb; have n0_ := Aside0.mk (Kd.V_below (Kd.V_elderB (by (with_reducible repeat (first | apply Kd.V_alloc | apply Kd.V_drewN | apply Kd.V_drew)); exact HO_1.out) gb173 (Nat.le_of_eq hg.symm)) hb); have n1_ := Aside0.mk (Kd.R_below (by (with_reducible repeat (first | apply Kd.R_alloc | apply Kd.R_drewN | apply Kd.R_drew)); exact HO170.out) hb); have n2_ := Aside0.mk (blk_below (g := gb163) (o := .cells #[.int .i64 a0_0, .int .i64 a0_1] 26 (0, 0)) (by (with_reducible repeat (first | refine blk_drewN ?_ _ | refine blk_drew ?_ | refine blk_alloc ?_ _)); exact BK163.out) hb); have n3_ := Aside0.mk (below_step (by repeat (first | (with_reducible first | exact HB.out | apply below_alloc | apply pw_below_drewN | apply below_drew1 | refine below_set ?_ GE163.out) | exact HB.out)) hb); have n4_ := Aside0.mk (hbox); have n5_ := Aside0.mk ((by rw [hg]; exact (below_size (by repeat (first | (with_reducible first | exact HB.out | apply below_alloc | apply pw_below_drewN | apply below_drew1 | refine below_set ?_ GE163.out) | exact HB.out))) : w.heap.size ≤ gb173)); have n6_ := Aside0.mk ((by rw [hg]; exact (below_size (by repeat (first | (with_reducible first | exact HB.out | apply below_alloc | apply pw_below_drewN | apply below_drew1 | refine below_set ?_ GE163.out) | exact HB.out))) : w.heap.size ≤ gb173)); have n7_ := Aside0.mk ((by rw [hg]; exact Nat.ne_of_lt (blk_lt (g := gb163) (o := .cells #[.int .i64 a0_0, .int .i64 a0_1] 26 (0, 0)) (by (with_reducible repeat (first | refine blk_drewN ?_ _ | refine blk_drew ?_ | refine blk_alloc ?_ _)); exact BK163.out)) : gb163 ≠ gb173)); have n8_ := Aside0.mk ((by rw [hg]; exact Nat.ne_of_gt (blk_lt (g := gb163) (o := .cells #[.int .i64 a0_0, .int .i64 a0_1] 26 (0, 0)) (by (with_reducible repeat (first | refine blk_drewN ?_ _ | refine blk_drew ?_ | refine blk_alloc ?_ _)); exact BK163.out)) : gb173 ≠ gb163)); clear HO_1; clear HO170; clear BK163; clear HB; have HO_1 := n0_; have HO170 := n1_; have BK163 := n2_; have HB := n3_; have BK173 := n4_; have GW173 := n5_; have GE173 := n6_; have NB163_173 := n7_; have NB173_163 := n8_; clear n0_ n1_ n2_ n3_ n4_ n5_ n6_ n7_ n8_; clear hb hbox hg; have hnb30 := NB173_163.out; have hnc30 := NB163_173.out; have hcz31_0 : w29.cell? ⟨gb173, 0, none⟩ = some (.int .i64 0) := (blk_cell BK173.out 0).trans rfl; have hcz31_1 : w29.cell? ⟨gb173, 1, none⟩ = some (.int .i64 0) := (blk_cell BK173.out 1).trans rfl; have hfz31_0 := blk_frozen BK173.out 0; have hfz31_1 := blk_frozen BK173.out 1; have hcz32_0 : w29.cell? ⟨gb163, 0, none⟩ = some (.int .i64 a0_0) := (blk_cell BK163.out 0).trans rfl; have hcz32_1 : w29.cell? ⟨gb163, 1, none⟩ = some (.int .i64 a0_1) := (blk_cell BK163.out 1).trans rfl; have hfz32_0 := blk_frozen BK163.out 0; have hfz32_1 := blk_frozen BK163.out 1))
          go_ret
          exact ⟨by first | rfl | (simp [errW_none, errW_some] <;> rfl) | (simp [*, errW_none, errW_some] <;> rfl), by repeat (first | (with_reducible first | exact HB.out | apply below_alloc | apply pw_below_drewN | apply below_drew1 | refine below_set ?_ GE163.out | refine below_set ?_ GE173.out) | exact HB.out)⟩
         ·rw [if_neg c23] at H
          have c23b0 : (a0_0 == t171 && (a0_1 == t172)) = false := by simpa using c23
          (try (have c23b1 : decide (a0_0 = t171 && (a0_1 == t172)) = false := by simpa using c23))
          (try (have c23b2 : (a0_0 == t171 && (a0_1 == t172)) = false := by simpa using c23))
          (try (have c23b3 : ¬ (a0_0 = t171 && (a0_1 == t172)) := by simpa using c23))
          clear c23; replace H := Option.bind_eq_some_iff.mp H; obtain ⟨⟨t174, t175⟩, A330, H⟩ := H; (try dsimp only at H); have A33 := Aside0.mk A330; clear A330
          by_cases c34 : (a0_0 == t174 && (a0_1 == t175)) = true
          ·rw [if_pos c34] at H
           have c34b0 : (a0_0 == t174 && (a0_1 == t175)) = true := c34
           (try (have c34b1 : decide (a0_0 = t174 && (a0_1 == t175)) = true := by simpa using c34))
           (try (have c34b2 : (a0_0 == t174 && (a0_1 == t175)) = true := by simpa using c34))
           clear c34
           by_cases c35 : 1 + (strOfNums y168).size ≤ 9223372036854775807
           ·rw [if_pos c35] at H
            have c35b0 := eq_true c35
            have c35b1 : decide (1 + (strOfNums y168).size ≤ 9223372036854775807) = true := decide_eq_true c35
            try have c35b2 : (9223372036854775807 < 1 + (strOfNums y168).size) = False := eq_false (Nat.not_lt.2 c35)
            obtain rfl := Option.some.inj H
            go_wp2_with (first | ((with_reducible refine gate_dst (N := 34) rfl ?_); refine Kd.R_lit (Kd.int .u8) _ 5 ?hg (N := 34) ?hd (xs := ([(97 + ((x28_1) % 256)) % 256] : List Int)) (inner := [.int .u8 ((97 + ((x28_1) % 256)) % 256)]) (ok := fun _ => True) (okp := fun _ => True) ?hr ?hp (fun _ hk => hk) trivial (Below.refl _ _) (Nat.le_refl _) (by simp) ?_; (case hd => rfl); (case hg => rfl); (case hr => first | (go_simp; done) | (go_simp; rfl)); (case hp => exact (Reps.one (show Kd.M (Kd.int .u8) _ _ _ ((97 + ((x28_1) % 256)) % 256) [.int .u8 ((97 + ((x28_1) % 256)) % 256)] from rfl) (Reps.none _ _))); intro v169 w36 ho37 hb hg_ hnew_; clear hg_ hnew_; (first | rw [← Ny168.out] at ho37 | (simp only [Int.reduceToNat] at ho37; rw [← Ny168.out] at ho37)); have n0_ := Aside0.mk (Kd.V_elder' (by (with_reducible repeat (first | apply Kd.V_alloc | apply Kd.V_drewN | apply Kd.V_drew)); exact HO_1.out) (Kd.R_base ho37) hb); have n1_ := Aside0.mk (Kd.R_lower (Kd.R_newM (M := fun k_ => (w.heap.size ≤ k_)) ho37 (below_size (by repeat (first | (with_reducible first | exact HB.out | apply below_alloc | apply pw_below_drewN | apply below_drew1 | refine below_set ?_ GE163.out) | exact HB.out))) (fun k_ h_ => h_)) (below_size (by repeat (first | (with_reducible first | exact HB.out | apply below_alloc | apply pw_below_drewN | apply below_drew1 | refine below_set ?_ GE163.out) | exact HB.out)))); have n2_ := Aside0.mk (blk_below (g := gb163) (o := .cells #[.int .i64 a0_0, .int .i64 a0_1] 26 (0, 0)) (by (with_reducible repeat (first | refine blk_drewN ?_ _ | refine blk_drew ?_ | refine blk_alloc ?_ _)); exact BK163.out) hb); have n3_ := Aside0.mk (below_step (by repeat (first | (with_reducible first | exact HB.out | apply below_alloc | apply pw_below_drewN | apply below_drew1 | refine below_set ?_ GE163.out) | exact HB.out)) hb); clear HO_1; clear BK163; clear HB; have HO_1 := n0_; have HO170 := n1_; have BK163 := n2_; have HB := n3_; clear n0_ n1_ n2_ n3_; clear hb ho37; have hcv38 := own_string (P := Tryd.prog) Tryd.underlying42 Tryd.underlying5 Tryd.underlying9 (Kd.own_of_R HO170.out); have hcz39_0 : w36.cell? ⟨gb163, 0, none⟩ = some (.int .i64 a0_0) := (blk_cell BK163.out 0).trans rfl; have hcz39_1 : w36.cell? ⟨gb163, 1, none⟩ = some (.int .i64 a0_1) := (blk_cell BK163.out 1).trans rfl; have hfz39_0 := blk_frozen BK163.out 0; have hfz39_1 := blk_frozen BK163.out 1) | ((with_reducible refine gate_callee (f := 20) rfl ?_); refine goesL_ (some 39) rfl rfl Tryd.func20 (by kernel_rfl) rfl #[.int .i64 a0_0, .int .i64 x28_1] rfl (by first | rfl | (simp only [List.map_toArray, List.map_cons, List.map_nil, List.length_drop, List.length_take]; rfl)) ?_; (with_reducible refine (impl_variable.calls a0_0 x28_1 t171 t172 _ A22.out).mono ?_); rintro e w40 ⟨rfl, hb⟩; refine ⟨_, rfl, ?_⟩; have n0_ := Aside0.mk (Kd.V_below (by (with_reducible repeat (first | apply Kd.V_alloc | apply Kd.V_drewN | apply Kd.V_drew)); exact HO_1.out) hb); have n1_ := Aside0.mk (Kd.R_below (by (with_reducible repeat (first | apply Kd.R_alloc | apply Kd.R_drewN | apply Kd.R_drew)); exact HO170.out) hb); have n2_ := Aside0.mk (blk_below (g := gb163) (o := .cells #[.int .i64 a0_0, .int .i64 a0_1] 26 (0, 0)) (by (with_reducible repeat (first | refine blk_drewN ?_ _ | refine blk_drew ?_ | refine blk_alloc ?_ _)); exact BK163.out) hb); have n3_ := Aside0.mk (below_step (by repeat (first | (with_reducible first | exact HB.out | apply below_alloc | apply pw_below_drewN | apply below_drew1 | refine below_set ?_ GE163.out) | exact HB.out)) hb); clear HO_1; clear HO170; clear BK163; clear HB; have HO_1 := n0_; have HO170 := n1_; have BK163 := n2_; have HB := n3_; clear n0_ n1_ n2_ n3_; (try clear hb); (try clear hb2); (try clear hk); (try clear hi)) | ((with_reducible refine gate_dst (N := 7) rfl ?_); refine box_event ?hg (N := 7) ?hd (cs := #[.int .i64 0, .int .i64 0]) (t := 26) ?hr ?_; (case hd => rfl); (case hg => rfl); (case hr => first | (go_simp; done) | (go_simp; rfl)); intro gb173 hg w41 hbox hb; have n0_ := Aside0.mk (Kd.V_below (Kd.V_elderB (by (with_reducible repeat (first | apply Kd.V_alloc | apply Kd.V_drewN | apply Kd.V_drew)); exact HO_1.out) gb173 (Nat.le_of_eq hg.symm)) hb); have n1_ := Aside0.mk (Kd.R_below (by (with_reducible repeat (first | apply Kd.R_alloc | apply Kd.R_drewN | apply Kd.R_drew)); exact HO170.out) hb); have n2_ := Aside0.mk (blk_below (g := gb163) (o := .cells #[.int .i64 a0_0, .int .i64 a0_1] 26 (0, 0)) (by (with_reducible repeat (first | refine blk_drewN ?_ _ | refine blk_drew ?_ | refine blk_alloc ?_ _)); exact BK163.out) hb); have n3_ := Aside0.mk (below_step (by repeat (first | (with_reducible first | exact HB.out | apply below_alloc | apply pw_below_drewN | apply below_drew1 | refine below_set ?_ GE163.out) | exact HB.out)) hb); have n4_ := Aside0.mk (hbox); have n5_ := Aside0.mk ((by rw [hg]; exact (below_size (by repeat (first | (with_reducible first | exact HB.out | apply below_alloc | apply pw_below_drewN | apply below_drew1 | refine below_set ?_ GE163.out) | exact HB.out))) : w.heap.size ≤ gb173)); have n6_ := Aside0.mk ((by rw [hg]; exact (below_size (by repeat (first | (with_reducible first | exact HB.out | apply below_alloc | apply pw_below_drewN | apply below_drew1 | refine below_set ?_ GE163.out) | exact HB.out))) : w.heap.size ≤ gb173)); have n7_ := Aside0.mk ((by rw [hg]; exact Nat.ne_of_lt (blk_lt (g := gb163) (o := .cells #[.int .i64 a0_0, .int .i64 a0_1] 26 (0, 0)) (by (with_reducible repeat (first | refine blk_drewN ?_ _ | refine blk_drew ?_ | refine blk_alloc ?_ _)); exact BK163.out)) : gb163 ≠ gb173)); have n8_ := Aside0.mk ((by rw [hg]; exact Nat.ne_of_gt (blk_lt (g := gb163) (o := .cells #[.int .i64 a0_0, .int .i64 a0_1] 26 (0, 0)) (by (with_reducible repeat (first | refine blk_drewN ?_ _ | refine blk_drew ?_ | refine blk_alloc ?_ _)); exact BK163.out)) : gb173 ≠ gb163)); clear HO_1; clear HO170; clear BK163; clear HB; have HO_1 := n0_; have HO170 := n1_; have BK163 := n2_; have HB := n3_; have BK173 := n4_; have GW173 := n5_; have GE173 := n6_; have NB163_173 := n7_; have NB173_163 := n8_; clear n0_ n1_ n2_ n3_ n4_ n5_ n6_ n7_ n8_; clear hb hbox hg; have hnb42 := NB173_163.out; have hnc42 := NB163_173.out; have hcz43_0 : w41.cell? ⟨gb173, 0, none⟩ = some (.int .i64 0) := (blk_cell BK173.out 0).trans rfl; have hcz43_1 : w41.cell? ⟨gb173, 1, none⟩ = some (.int .i64 0) := (blk_cell BK173.out 1).trans rfl; have hfz43_0 := blk_frozen BK173.out 0; have hfz43_1 := blk_frozen BK173.out 1; have hcz44_0 : w41.cell? ⟨gb163, 0, none⟩ = some (.int .i64 a0_0) := (blk_cell BK163.out 0).trans rfl; have hcz44_1 : w41.cell? ⟨gb163, 1, none⟩ = some (.int .i64 a0_1) := (blk_cell BK163.out 1).trans rfl; have hfz44_0 := blk_frozen BK163.out 0; have hfz44_1 := blk_frozen BK163.out 1) | ((with_reducible refine gate_callee (f := 21) rfl ?_); refine goesL_ (some 47) rfl rfl Tryd.func21 (by kernel_rfl) rfl #[.agg #[.int .i64 t171, .int .i64 t172]] rfl (by first | rfl | (simp only [List.map_toArray, List.map_cons, List.map_nil, List.length_drop, List.length_take]; rfl)) ?_; (with_reducible refine (impl_Table_not.calls t171 t172 t174 t175 _ A33.out).mono ?_); rintro e w45 ⟨rfl, hb⟩; refine ⟨_, rfl, ?_⟩; have n0_ := Aside0.mk (Kd.V_below (by (with_reducible repeat (first | apply Kd.V_alloc | apply Kd.V_drewN | apply Kd.V_drew)); exact (Kd.V_mono (Kd.V_far (p := ⟨gb173, 1, none⟩) (Kd.V_far (p := ⟨gb173, 0, none⟩) (Kd.V_mono HO_1.out (fun k_ hk => (⟨hk, hk.2⟩ : _ ∧ k_ ≠ gb173))) (fun _ hk => hk.2) (.int .i64 t171)) (fun _ hk => hk.2) (.int .i64 t172)) (fun _ h_ => h_.1))) hb); have n1_ := Aside0.mk (Kd.R_below (by (with_reducible repeat (first | apply Kd.R_alloc | apply Kd.R_drewN | apply Kd.R_drew)); exact (Kd.R_mono (Kd.R_far (p := ⟨gb173, 1, none⟩) (Kd.R_far (p := ⟨gb173, 0, none⟩) (Kd.R_types HO170.out BK173.out (by decide)) (fun _ hk => hk.2) (.int .i64 t171)) (fun _ hk => hk.2) (.int .i64 t172)) (fun _ h_ => h_.1))) hb); have n2_ := Aside0.mk (blk_below (g := gb163) (o := .cells #[.int .i64 a0_0, .int .i64 a0_1] 26 (0, 0)) (by (with_reducible repeat (first | refine blk_drewN ?_ _ | refine blk_drew ?_ | refine blk_alloc ?_ _)); refine blk_far ?_ NB163_173.out _; (with_reducible repeat (first | refine blk_drewN ?_ _ | refine blk_drew ?_ | refine blk_alloc ?_ _)); refine blk_far ?_ NB163_173.out _; (with_reducible repeat (first | refine blk_drewN ?_ _ | refine blk_drew ?_ | refine blk_alloc ?_ _)); exact BK163.out) hb); have n3_ := Aside0.mk (blk_below (g := gb173) (o := .cells #[.int .i64 t171, .int .i64 t172] 26 (0, 0)) (by (with_reducible repeat (first | refine blk_drewN ?_ _ | refine blk_drew ?_ | refine blk_alloc ?_ _)); refine blk_put (cs := #[.int .i64 t171, .int .i64 0]) ?_ 1 _ rfl; (with_reducible repeat (first | refine blk_drewN ?_ _ | refine blk_drew ?_ | refine blk_alloc ?_ _)); refine blk_put (cs := #[.int .i64 0, .int .i64 0]) ?_ 0 _ rfl; (with_reducible repeat (first | refine blk_drewN ?_ _ | refine blk_drew ?_ | refine blk_alloc ?_ _)); exact BK173.out) hb); have n4_ := Aside0.mk (below_step (by repeat (first | (with_reducible first | exact HB.out | apply below_alloc | apply pw_below_drewN | apply below_drew1 | refine below_set ?_ GE163.out | refine below_set ?_ GE173.out) | exact HB.out)) hb); clear HO_1; clear HO170; clear BK163; clear BK173; clear HB; have HO_1 := n0_; have HO170 := n1_; have BK163 := n2_; have BK173 := n3_; have HB := n4_; clear n0_ n1_ n2_ n3_ n4_; (try clear hb); (try clear hb2); (try clear hk); (try clear hi)))
            go_ret
            exact ⟨by first | rfl | (simp [errW_none, errW_some] <;> rfl) | (simp [*, errW_none, errW_some] <;> rfl), by repeat (first | (with_reducible first | exact HB.out | apply below_alloc | apply pw_below_drewN | apply below_drew1 | refine below_set ?_ GE163.out | refine below_set ?_ GE173.out) | exact HB.out)⟩
           ·rw [if_neg c35] at H
            exact absurd H (by simp)
          ·rw [if_neg c34] at H
           have c34b0 : (a0_0 == t174 && (a0_1 == t175)) = false := by simpa using c34
           (try (have c34b1 : decide (a0_0 = t174 && (a0_1 == t175)) = false := by simpa using c34))
           (try (have c34b2 : (a0_0 == t174 && (a0_1 == t175)) = false := by simpa using c34))
           (try (have c34b3 : ¬ (a0_0 = t174 && (a0_1 == t175)) := by simpa using c34))
           clear c34
           have H' := Aside0.mk H
           clear H
           go_wp2_with (first | ((with_reducible refine gate_dst (N := 34) rfl ?_); refine Kd.R_lit (Kd.int .u8) _ 5 ?hg (N := 34) ?hd (xs := ([(97 + ((x28_1) % 256)) % 256] : List Int)) (inner := [.int .u8 ((97 + ((x28_1) % 256)) % 256)]) (ok := fun _ => True) (okp := fun _ => True) ?hr ?hp (fun _ hk => hk) trivial (Below.refl _ _) (Nat.le_refl _) (by simp) ?_; (case hd => rfl); (case hg => rfl); (case hr => first | (go_simp; done) | (go_simp; rfl)); (case hp => exact (Reps.one (show Kd.M (Kd.int .u8) _ _ _ ((97 + ((x28_1) % 256)) % 256) [.int .u8 ((97 + ((x28_1) % 256)) % 256)] from rfl) (Reps.none _ _))); intro v169 w46 ho47 hb hg_ hnew_; clear hg_ hnew_; (first | rw [← Ny168.out] at ho47 | (simp only [Int.reduceToNat] at ho47; rw [← Ny168.out] at ho47)); have n0_ := Aside0.mk (Kd.V_elder' (by (with_reducible repeat (first | apply Kd.V_alloc | apply Kd.V_drewN | apply Kd.V_drew)); exact HO_1.out) (Kd.R_base ho47) hb); have n1_ := Aside0.mk (Kd.R_lower (Kd.R_newM (M := fun k_ => (w.heap.size ≤ k_)) ho47 (below_size (by repeat (first | (with_reducible first | exact HB.out | apply below_alloc | apply pw_below_drewN | apply below_drew1 | refine below_set ?_ GE163.out) | exact HB.out))) (fun k_ h_ => h_)) (below_size (by repeat (first | (with_reducible first | exact HB.out | apply below_alloc | apply pw_below_drewN | apply below_drew1 | refine below_set ?_ GE163.out) | exact HB.out)))); have n2_ := Aside0.mk (blk_below (g := gb163) (o := .cells #[.int .i64 a0_0, .int .i64 a0_1] 26 (0, 0)) (by (with_reducible repeat (first | refine blk_drewN ?_ _ | refine blk_drew ?_ | refine blk_alloc ?_ _)); exact BK163.out) hb); have n3_ := Aside0.mk (below_step (by repeat (first | (with_reducible first | exact HB.out | apply below_alloc | apply pw_below_drewN | apply below_drew1 | refine below_set ?_ GE163.out) | exact HB.out)) hb); clear HO_1; clear BK163; clear HB; have HO_1 := n0_; have HO170 := n1_; have BK163 := n2_; have HB := n3_; clear n0_ n1_ n2_ n3_; clear hb ho47; have hcv48 := own_string (P := Tryd.prog) Tryd.underlying42 Tryd.underlying5 Tryd.underlying9 (Kd.own_of_R HO170.out); have hcz49_0 : w46.cell? ⟨gb163, 0, none⟩ = some (.int .i64 a0_0) := (blk_cell BK163.out 0).trans rfl; have hcz49_1 : w46.cell? ⟨gb163, 1, none⟩ = some (.int .i64 a0_1) := (blk_cell BK163.out 1).trans rfl; have hfz49_0 := blk_frozen BK163.out 0; have hfz49_1 := blk_frozen BK163.out 1) | ((with_reducible refine gate_callee (f := 20) rfl ?_); refine goesL_ (some 39) rfl rfl Tryd.func20 (by kernel_rfl) rfl #[.int .i64 a0_0, .int .i64 x28_1] rfl (by first | rfl | (simp only [List.map_toArray, List.map_cons, List.map_nil, List.length_drop, List.length_take]; rfl)) ?_; (with_reducible refine (impl_variable.calls a0_0 x28_1 t171 t172 _ A22.out).mono ?_); rintro e w50 ⟨rfl, hb⟩; refine ⟨_, rfl, ?_⟩; have n0_ := Aside0.mk (Kd.V_below (by (with_reducible repeat (first | apply Kd.V_alloc | apply Kd.V_drewN | apply Kd.V_drew)); exact HO_1.out) hb); have n1_ := Aside0.mk (Kd.R_below (by (with_reducible repeat (first | apply Kd.R_alloc | apply Kd.R_drewN | apply Kd.R_drew)); exact HO170.out) hb); have n2_ := Aside0.mk (blk_below (g := gb163) (o := .cells #[.int .i64 a0_0, .int .i64 a0_1] 26 (0, 0)) (by (with_reducible repeat (first | refine blk_drewN ?_ _ | refine blk_drew ?_ | refine blk_alloc ?_ _)); exact BK163.out) hb); have n3_ := Aside0.mk (below_step (by repeat (first | (with_reducible first | exact HB.out | apply below_alloc | apply pw_below_drewN | apply below_drew1 | refine below_set ?_ GE163.out) | exact HB.out)) hb); clear HO_1; clear HO170; clear BK163; clear HB; have HO_1 := n0_; have HO170 := n1_; have BK163 := n2_; have HB := n3_; clear n0_ n1_ n2_ n3_; (try clear hb); (try clear hb2); (try clear hk); (try clear hi)) | ((with_reducible refine gate_dst (N := 7) rfl ?_); refine box_event ?hg (N := 7) ?hd (cs := #[.int .i64 0, .int .i64 0]) (t := 26) ?hr ?_; (case hd => rfl); (case hg => rfl); (case hr => first | (go_simp; done) | (go_simp; rfl)); intro gb173 hg w51 hbox hb; have n0_ := Aside0.mk (Kd.V_below (Kd.V_elderB (by (with_reducible repeat (first | apply Kd.V_alloc | apply Kd.V_drewN | apply Kd.V_drew)); exact HO_1.out) gb173 (Nat.le_of_eq hg.symm)) hb); have n1_ := Aside0.mk (Kd.R_below (by (with_reducible repeat (first | apply Kd.R_alloc | apply Kd.R_drewN | apply Kd.R_drew)); exact HO170.out) hb); have n2_ := Aside0.mk (blk_below (g := gb163) (o := .cells #[.int .i64 a0_0, .int .i64 a0_1] 26 (0, 0)) (by (with_reducible repeat (first | refine blk_drewN ?_ _ | refine blk_drew ?_ | refine blk_alloc ?_ _)); exact BK163.out) hb); have n3_ := Aside0.mk (below_step (by repeat (first | (with_reducible first | exact HB.out | apply below_alloc | apply pw_below_drewN | apply below_drew1 | refine below_set ?_ GE163.out) | exact HB.out)) hb); have n4_ := Aside0.mk (hbox); have n5_ := Aside0.mk ((by rw [hg]; exact (below_size (by repeat (first | (with_reducible first | exact HB.out | apply below_alloc | apply pw_below_drewN | apply below_drew1 | refine below_set ?_ GE163.out) | exact HB.out))) : w.heap.size ≤ gb173)); have n6_ := Aside0.mk ((by rw [hg]; exact (below_size (by repeat (first | (with_reducible first | exact HB.out | apply below_alloc | apply pw_below_drewN | apply below_drew1 | refine below_set ?_ GE163.out) | exact HB.out))) : w.heap.size ≤ gb173)); have n7_ := Aside0.mk ((by rw [hg]; exact Nat.ne_of_lt (blk_lt (g := gb163) (o := .cells #[.int .i64 a0_0, .int .i64 a0_1] 26 (0, 0)) (by (with_reducible repeat (first | refine blk_drewN ?_ _ | refine blk_drew ?_ | refine blk_alloc ?_ _)); exact BK163.out)) : gb163 ≠ gb173)); have n8_ := Aside0.mk ((by rw [hg]; exact Nat.ne_of_gt (blk_lt (g := gb163) (o := .cells #[.int .i64 a0_0, .int .i64 a0_1] 26 (0, 0)) (by (with_reducible repeat (first | refine blk_drewN ?_ _ | refine blk_drew ?_ | refine blk_alloc ?_ _)); exact BK163.out)) : gb173 ≠ gb163)); clear HO_1; clear HO170; clear BK163; clear HB; have HO_1 := n0_; have HO170 := n1_; have BK163 := n2_; have HB := n3_; have BK173 := n4_; have GW173 := n5_; have GE173 := n6_; have NB163_173 := n7_; have NB173_163 := n8_; clear n0_ n1_ n2_ n3_ n4_ n5_ n6_ n7_ n8_; clear hb hbox hg; have hnb52 := NB173_163.out; have hnc52 := NB163_173.out; have hcz53_0 : w51.cell? ⟨gb173, 0, none⟩ = some (.int .i64 0) := (blk_cell BK173.out 0).trans rfl; have hcz53_1 : w51.cell? ⟨gb173, 1, none⟩ = some (.int .i64 0) := (blk_cell BK173.out 1).trans rfl; have hfz53_0 := blk_frozen BK173.out 0; have hfz53_1 := blk_frozen BK173.out 1; have hcz54_0 : w51.cell? ⟨gb163, 0, none⟩ = some (.int .i64 a0_0) := (blk_cell BK163.out 0).trans rfl; have hcz54_1 : w51.cell? ⟨gb163, 1, none⟩ = some (.int .i64 a0_1) := (blk_cell BK163.out 1).trans rfl; have hfz54_0 := blk_frozen BK163.out 0; have hfz54_1 := blk_frozen BK163.out 1) | ((with_reducible refine gate_callee (f := 21) rfl ?_); refine goesL_ (some 47) rfl rfl Tryd.func21 (by kernel_rfl) rfl #[.agg #[.int .i64 t171, .int .i64 t172]] rfl (by first | rfl | (simp only [List.map_toArray, List.map_cons, List.map_nil, List.length_drop, List.length_take]; rfl)) ?_; (with_reducible refine (impl_Table_not.calls t171 t172 t174 t175 _ A33.out).mono ?_); rintro e w55 ⟨rfl, hb⟩; refine ⟨_, rfl, ?_⟩; have n0_ := Aside0.mk (Kd.V_below (by (with_reducible repeat (first | apply Kd.V_alloc | apply Kd.V_drewN | apply Kd.V_drew)); exact (Kd.V_mono (Kd.V_far (p := ⟨gb173, 1, none⟩) (Kd.V_far (p := ⟨gb173, 0, none⟩) (Kd.V_mono HO_1.out (fun k_ hk => (⟨hk, hk.2⟩ : _ ∧ k_ ≠ gb173))) (fun _ hk => hk.2) (.int .i64 t171)) (fun _ hk => hk.2) (.int .i64 t172)) (fun _ h_ => h_.1))) hb); have n1_ := Aside0.mk (Kd.R_below (by (with_reducible repeat (first | apply Kd.R_alloc | apply Kd.R_drewN | apply Kd.R_drew)); exact (Kd.R_mono (Kd.R_far (p := ⟨gb173, 1, none⟩) (Kd.R_far (p := ⟨gb173, 0, none⟩) (Kd.R_types HO170.out BK173.out (by decide)) (fun _ hk => hk.2) (.int .i64 t171)) (fun _ hk => hk.2) (.int .i64 t172)) (fun _ h_ => h_.1))) hb); have n2_ := Aside0.mk (blk_below (g := gb163) (o := .cells #[.int .i64 a0_0, .int .i64 a0_1] 26 (0, 0)) (by (with_reducible repeat (first | refine blk_drewN ?_ _ | refine blk_drew ?_ | refine blk_alloc ?_ _)); refine blk_far ?_ NB163_173.out _; (with_reducible repeat (first | refine blk_drewN ?_ _ | refine blk_drew ?_ | refine blk_alloc ?_ _)); refine blk_far ?_ NB163_173.out _; (with_reducible repeat (first | refine blk_drewN ?_ _ | refine blk_drew ?_ | refine blk_alloc ?_ _)); exact BK163.out) hb); have n3_ := Aside0.mk (blk_below (g := gb173) (o := .cells #[.int .i64 t171, .int .i64 t172] 26 (0, 0)) (by (with_reducible repeat (first | refine blk_drewN ?_ _ | refine blk_drew ?_ | refine blk_alloc ?_ _)); refine blk_put (cs := #[.int .i64 t171, .int .i64 0]) ?_ 1 _ rfl; (with_reducible repeat (first | refine blk_drewN ?_ _ | refine blk_drew ?_ | refine blk_alloc ?_ _)); refine blk_put (cs := #[.int .i64 0, .int .i64 0]) ?_ 0 _ rfl; (with_reducible repeat (first | refine blk_drewN ?_ _ | refine blk_drew ?_ | refine blk_alloc ?_ _)); exact BK173.out) hb); have n4_ := Aside0.mk (below_step (by repeat (first | (with_reducible first | exact HB.out | apply below_alloc | apply pw_below_drewN | apply below_drew1 | refine below_set ?_ GE163.out | refine below_set ?_ GE173.out) | exact HB.out)) hb); clear HO_1; clear HO170; clear BK163; clear BK173; clear HB; have HO_1 := n0_; have HO170 := n1_; have BK163 := n2_; have BK173 := n3_; have HB := n4_; clear n0_ n1_ n2_ n3_ n4_; (try clear hb); (try clear hb2); (try clear hk); (try clear hi)))
           go_roundg k1
           case measure => have := HK1.out; omega
           case rel => exact ⟨(wrap64 (x28_1 + 1)), (by first | rfl | (simp; done) | (simp [*]; done)), H', ⟨by have := HK1.out; omega⟩, ⟨by (with_reducible repeat (first | apply Kd.V_alloc | apply Kd.V_drewN | apply Kd.V_drew)); exact Kd.V_mono HO_1.out (fun _ hk => ⟨hk.1.1.1, hk.1.1.2⟩)⟩, ⟨by (with_reducible repeat (first | refine blk_drewN ?_ _ | refine blk_drew ?_ | refine blk_alloc ?_ _)); exact BK163.out⟩, ⟨by repeat (first | (with_reducible first | exact HB.out | apply below_alloc | apply pw_below_drewN | apply below_drew1 | refine below_set ?_ GE163.out | refine below_set ?_ GE173.out) | exact HB.out)⟩⟩
        ·rw [if_neg c21] at H
         have c21b0 : decide (x28_1 < a0_0) = false := decide_eq_false c21
         clear c21
         have H' := Aside0.mk H
         clear H
         go_wp2
         go_meet
         case rel => exact ⟨_, H', ⟨by have := HK1.out; first | omega | exact Nat.le_refl _⟩, ⟨by (with_reducible repeat (first | apply Kd.V_alloc | apply Kd.V_drewN | apply Kd.V_drew)); exact HO_1.out⟩, ⟨by (with_reducible repeat (first | refine blk_drewN ?_ _ | refine blk_drew ?_ | refine blk_alloc ?_ _)); exact BK163.out⟩, ⟨by repeat (first | (with_reducible first | exact HB.out | apply below_alloc | apply pw_below_drewN | apply below_drew1 | refine below_set ?_ GE163.out) | exact HB.out)⟩⟩
     ·rw [if_neg c19] at H
      have c19b0 : ((rd l1 a0_1) == 1) = false := beq_eq_false_iff_ne.mpr c19
      have c19b1 : ((rd l1 a0_1) != 1) = true := bne_iff_ne.mpr c19
      (first | rw [c19b0] | (simp only [i64_w, i32_w]; rw [c19b0]) | skip)
      have H' := Aside0.mk H
      clear H
      go_wp2
      go_meet
      case rel => exact ⟨_, H', ⟨by first | omega | exact Nat.le_refl _⟩, ⟨by (with_reducible repeat (first | apply Kd.V_alloc | apply Kd.V_drewN | apply Kd.V_drew)); exact HO1.out⟩, ⟨by (with_reducible repeat (first | refine blk_drewN ?_ _ | refine blk_drew ?_ | refine blk_alloc ?_ _)); exact BK163.out⟩, ⟨by repeat (first | (with_reducible first | exact HB.out | apply below_alloc | apply pw_below_drewN | apply below_drew1 | refine below_set ?_ GE163.out) | exact HB.out)⟩⟩
    case rest =>
     as_aux_lemma =>
     clear HC14; (try clear c1); (try clear p1); (try clear q1); (try clear hx1); (try clear c2); (try clear p2); (try clear hcv2); (try clear c3); (try clear hcv3); (try clear c4); (try clear hcv4); (try clear c5); (try clear p6); (try clear c11); (try clear c12); (try clear c12b0); (try clear c13); (try clear c13b0); (try clear p16); (try clear q16); (try clear hx16); (try clear c17); (try clear c18); (try clear c19); (try clear c19b0); (try clear c19b1); (try clear c20); (try clear c21); (try clear c21b0); (try clear c23); (try clear c23b0); (try clear c23b1); (try clear c23b2); (try clear hcv26)
     (try clear c30); (try clear c34); (try clear c34b0); (try clear c34b1); (try clear c34b2); (try clear c35); (try clear c35b0); (try clear c35b1); (try clear c35b2); (try clear hcv38); (try clear c42); (try clear hcv48); (try clear c52); (try clear hcz10_0); (try clear hcz10_1); (try clear hcz16_0); (try clear hcz16_1); (try clear hcz18_0); (try clear hcz18_1); (try clear hcz20_0); (try clear hcz20_1); (try clear hcz27_0); (try clear hcz27_1); (try clear hcz31_0); (try clear hcz31_1); (try clear hcz32_0); (try clear hcz32_1); (try clear hcz39_0); (try clear hcz39_1); (try clear hcz43_0)
     (try clear hcz43_1); (try clear hcz44_0); (try clear hcz44_1); (try clear hcz49_0); (try clear hcz49_1); (try clear hcz53_0); (try clear hcz53_1); (try clear hcz54_0); (try clear hcz54_1); (try clear hcz8_0); (try clear hcz8_1); (try clear hfz10_0); (try clear hfz10_1); (try clear hfz16_0); (try clear hfz16_1); (try clear hfz18_0); (try clear hfz18_1); (try clear hfz20_0); (try clear hfz20_1); (try clear hfz27_0); (try clear hfz27_1); (try clear hfz31_0); (try clear hfz31_1); (try clear hfz32_0); (try clear hfz32_1); (try clear hfz39_0); (try clear hfz39_1); (try clear hfz43_0); (try clear hfz43_1)
     (try clear hfz44_0); (try clear hfz44_1); (try clear hfz49_0); (try clear hfz49_1); (try clear hfz53_0); (try clear hfz53_1); (try clear hfz54_0); (try clear hfz54_1); (try clear hfz8_0); (try clear hfz8_1); (try clear hx167_0); (try clear p1); (try clear p16); (try clear p167); (try clear p2); (try clear q1); (try clear q16); (try clear q167); obtain ⟨kq, HA, HJ13, HO_1, BK163, HB⟩ := hcut
     cases kq with
     | zero => exact absurd HA.out (by simp [impl_Table_smallest.j1])
     | succ kj13 =>
      have H := HA.out
      clear HA
      simp only [impl_Table_smallest.j1] at H
      obtain ⟨y176, hy176⟩ : ∃ y_ : List Int, y_ = (([38, 124] : List Int)) := ⟨_, rfl⟩
      replace H : (impl_Table_smallest.l1 kj13 l1 y176 (y176.length : Int) 0 a0_0 a0_1) = some r := by first | (rw [hy176]; with_reducible exact H) | (have H2_ := (Option.bind_some _ _).symm.trans H; rw [hy176]; with_reducible exact H2_) | (have H2_ := (Option.bind_some _ _).symm.trans H; with_reducible exact H2_) | with_reducible exact H | (rw [hy176]; exact H) | exact H
      have Ny176 := Aside0.mk hy176; clear hy176
      have H' := Aside0.mk H
      clear H
      obtain ⟨Ao58, co58, wd_, kc_, hb, hbase_, hV_⟩ := Go.Proofs.YtmdpjmcleckedaaDoor.M.two_made (P := Tryd.prog) wc 42 5 38 124 Tryd.underlying42 Tryd.underlying5 Ny176.out
      have n0_ := Aside0.mk (Kd.V_elder' (u := (.slice Ao58 y176.length co58)) HO_1.out hbase_ hb)
      have n1_ := Aside0.mk (hV_ w.heap.size (fun k_ => (w.heap.size ≤ k_)) (fun k_ h_ => Nat.le_trans HB.out.size h_))
      have n2_ := Aside0.mk (blk_below BK163.out hb)
      have n3_ := Aside0.mk (below_step HB.out hb)
      clear HO_1; clear BK163; clear HB; have HO_1 := n0_; have HO178 := n1_; have BK163 := n2_; have HB := n3_; clear n0_ n1_ n2_ n3_; clear hb hbase_ hV_
      go_wp2
      go_loopg [55] kj13 (fun kq v55 w' => ∃ (x55_2 : Int), v55 = .int .i64 x55_2 ∧ Aside0 (impl_Table_smallest.l1 kq l1 y176 (y176.length : Int) x55_2 a0_0 a0_1 = some r) ∧ Aside0 (kq ≤ kj13) ∧ Aside0 (Kd.V (Kd.int .i64) 3 w' w.heap.size (fun k_ => (P1_ k_ ∨ w.heap.size ≤ k_) ∧ some k_ ≠ ((.slice Ao58 y176.length co58) : Value).ownBlock ∧ k_ ≠ gb163) (.slice (some ad167) l1.length c1) l1) ∧ Aside0 (Kd.V (Kd.int .u8) 5 w' w.heap.size (fun k_ => (w.heap.size ≤ k_)) (.slice Ao58 y176.length co58) y176) ∧ Aside0 (w'.heap[gb163]? = some (.cells #[.int .i64 a0_0, .int .i64 a0_1] 26 (0, 0))) ∧ Aside0 (Below w.heap.size w w'))
      case atStart => exact ⟨(0), (by first | rfl | (simp; done) | (simp [*]; done)), H', ⟨Nat.le_refl _⟩, ⟨by (with_reducible repeat (first | apply Kd.V_alloc | apply Kd.V_drewN | apply Kd.V_drew)); exact Kd.V_mono HO_1.out (fun _ hk => ⟨hk.1.1, ⟨hk.2, hk.1.2⟩⟩)⟩, ⟨by (with_reducible repeat (first | apply Kd.V_alloc | apply Kd.V_drewN | apply Kd.V_drew)); exact Kd.V_mono HO178.out (fun _ hk => hk)⟩, ⟨by (with_reducible repeat (first | refine blk_drewN ?_ _ | refine blk_drew ?_ | refine blk_alloc ?_ _)); exact BK163.out⟩, ⟨by repeat (first | (with_reducible first | exact HB.out | apply below_alloc | apply pw_below_drewN | apply below_drew1 | refine below_set ?_ GE163.out) | exact HB.out)⟩⟩
      case round =>
       as_aux_lemma =>
       clear H'; (try clear c1); (try clear p1); (try clear q1); (try clear hx1); (try clear c2); (try clear p2); (try clear hcv2); (try clear c3); (try clear hcv3); (try clear c4); (try clear hcv4); (try clear c5); (try clear p6); (try clear c11); (try clear c12); (try clear c12b0); (try clear c13); (try clear c13b0); (try clear p16); (try clear q16); (try clear hx16); (try clear c17); (try clear c18); (try clear c19); (try clear c19b0); (try clear c19b1); (try clear c20); (try clear c21); (try clear c21b0); (try clear c23); (try clear c23b0); (try clear c23b1); (try clear c23b2); (try clear hcv26)
       (try clear c30); (try clear c34); (try clear c34b0); (try clear c34b1); (try clear c34b2); (try clear c35); (try clear c35b0); (try clear c35b1); (try clear c35b2); (try clear hcv38); (try clear c42); (try clear hcv48); (try clear c52); (try clear hcz10_0); (try clear hcz10_1); (try clear hcz16_0); (try clear hcz16_1); (try clear hcz18_0); (try clear hcz18_1); (try clear hcz20_0); (try clear hcz20_1); (try clear hcz27_0); (try clear hcz27_1); (try clear hcz31_0); (try clear hcz31_1); (try clear hcz32_0); (try clear hcz32_1); (try clear hcz39_0); (try clear hcz39_1); (try clear hcz43_0)
       (try clear hcz43_1); (try clear hcz44_0); (try clear hcz44_1); (try clear hcz49_0); (try clear hcz49_1); (try clear hcz53_0); (try clear hcz53_1); (try clear hcz54_0); (try clear hcz54_1); (try clear hcz8_0); (try clear hcz8_1); (try clear hfz10_0); (try clear hfz10_1); (try clear hfz16_0); (try clear hfz16_1); (try clear hfz18_0); (try clear hfz18_1); (try clear hfz20_0); (try clear hfz20_1); (try clear hfz27_0); (try clear hfz27_1); (try clear hfz31_0); (try clear hfz31_1); (try clear hfz32_0); (try clear hfz32_1); (try clear hfz39_0); (try clear hfz39_1); (try clear hfz43_0); (try clear hfz43_1)
       (try clear hfz44_0); (try clear hfz44_1); (try clear hfz49_0); (try clear hfz49_1); (try clear hfz53_0); (try clear hfz53_1); (try clear hfz54_0); (try clear hfz54_1); (try clear hfz8_0); (try clear hfz8_1); (try clear hx167_0); (try clear p1); (try clear p16); (try clear p167); (try clear p2); (try clear p6); (try clear q1); (try clear q16); (try clear q167); obtain ⟨x55_2, rfl, HA, HK2, HO_1, HO_53, BK163, HB⟩ := hrel
       cases gk with
       | zero => exact absurd HA.out (by simp [impl_Table_smallest.l1])
       | succ k2 =>
        have H := HA.out
        clear HA
        simp only [impl_Table_smallest.l1] at H
        by_cases c59 : x55_2 < (y176.length : Int)
        ·rw [if_pos c59] at H
         have c59b0 : decide (x55_2 < (y176.length : Int)) = true := decide_eq_true c59
         clear c59
         by_cases c60 : 0 ≤ x55_2
         ·rw [if_pos c60] at H
          have c60b0 : decide (0 ≤ x55_2) = true := decide_eq_true c60
          clear c60
          by_cases c61 : x55_2 < (y176.length : Int)
          ·rw [if_pos c61] at H
           have c61b0 : decide (x55_2 < (y176.length : Int)) = true := decide_eq_true c61
           clear c61
           have H' := Aside0.mk H
           clear H
           have p179 : 0 ≤ (x55_2 : Int) := of_decide_eq_true (by first | (with_reducible assumption) | assumption)
           have q179 : x55_2 < (y176.length : Int) := of_decide_eq_true (by first | (with_reducible assumption) | assumption)
           obtain ⟨ad179, e179, hx179_0⟩ := Kd.at_int (Kd.V_reads' HO_53.out).2.2 x55_2 p179 q179
           cases e179
           replace p179 := eq_true p179
           replace q179 := eq_true q179
           go_wp2
           go_loopg [61] k2 (fun kq v61 w' => ∃ (x61_3 : Int), v61 = .int .i64 x61_3 ∧ Aside0 (impl_Table_smallest.l2 kq l1 (rd y176 x55_2) y176 (y176.length : Int) x55_2 l1 (l1.length : Int) x61_3 a0_0 a0_1 = some r) ∧ Aside0 (kq ≤ k2) ∧ Aside0 (Kd.V (Kd.int .i64) 3 w' w.heap.size (fun k_ => (P1_ k_ ∨ w.heap.size ≤ k_) ∧ some k_ ≠ ((.slice (some ad179) y176.length co58) : Value).ownBlock ∧ k_ ≠ gb163) (.slice (some ad167) l1.length c1) l1) ∧ Aside0 (Kd.V (Kd.int .u8) 5 w' w.heap.size (fun k_ => (w.heap.size ≤ k_)) (.slice (some ad179) y176.length co58) y176) ∧ Aside0 (Kd.V (Kd.int .i64) 3 w' w.heap.size (fun k_ => (P1_ k_ ∨ w.heap.size ≤ k_) ∧ some k_ ≠ ((.slice (some ad179) y176.length co58) : Value).ownBlock ∧ k_ ≠ gb163) (.slice (some ad167) l1.length c1) l1) ∧ Aside0 (w'.heap[gb163]? = some (.cells #[.int .i64 a0_0, .int .i64 a0_1] 26 (0, 0))) ∧ Aside0 (Below w.heap.size w w'))
           case atStart => exact ⟨(0), (by first | rfl | (simp; done) | (simp [*]; done)), H', ⟨Nat.le_refl _⟩, ⟨by (with_reducible repeat (first | apply Kd.V_alloc | apply Kd.V_drewN | apply Kd.V_drew)); exact HO_1.out⟩, ⟨by (with_reducible repeat (first | apply Kd.V_alloc | apply Kd.V_drewN | apply Kd.V_drew)); exact HO_53.out⟩, ⟨by (with_reducible repeat (first | apply Kd.V_alloc | apply Kd.V_drewN | apply Kd.V_drew)); exact HO_1.out⟩, ⟨by (with_reducible repeat (first | refine blk_drewN ?_ _ | refine blk_drew ?_ | refine blk_alloc ?_ _)); exact BK163.out⟩, ⟨by repeat (first | (with_reducible first | exact HB.out | apply below_alloc | apply pw_below_drewN | apply below_drew1 | refine below_set ?_ GE163.out) | exact HB.out)⟩⟩
           case round =>
            as_aux_lemma =>
            clear H'; (try clear c1); (try clear p1); (try clear q1); (try clear hx1); (try clear c2); (try clear p2); (try clear hcv2); (try clear c3); (try clear hcv3); (try clear c4); (try clear hcv4); (try clear c5); (try clear c6); (try clear p6); (try clear c11); (try clear c12); (try clear c12b0); (try clear c13); (try clear c13b0); (try clear p16); (try clear q16); (try clear hx16); (try clear c17); (try clear p17); (try clear q17); (try clear hx17); (try clear c18); (try clear c19); (try clear c19b0); (try clear c19b1); (try clear c20); (try clear c21); (try clear c21b0); (try clear c23)
            (try clear c23b0); (try clear c23b1); (try clear c23b2); (try clear hcv26); (try clear c30); (try clear c34); (try clear c34b0); (try clear c34b1); (try clear c34b2); (try clear c35); (try clear c35b0); (try clear c35b1); (try clear c35b2); (try clear hcv38); (try clear c42); (try clear hcv48); (try clear c52); (try clear c59); (try clear c59b0); (try clear c60); (try clear c60b0); (try clear c61); (try clear c61b0); (try clear hcz10_0); (try clear hcz10_1); (try clear hcz16_0); (try clear hcz16_1); (try clear hcz18_0); (try clear hcz18_1); (try clear hcz20_0); (try clear hcz20_1)
            (try clear hcz27_0); (try clear hcz27_1); (try clear hcz31_0); (try clear hcz31_1); (try clear hcz32_0); (try clear hcz32_1); (try clear hcz39_0); (try clear hcz39_1); (try clear hcz43_0); (try clear hcz43_1); (try clear hcz44_0); (try clear hcz44_1); (try clear hcz49_0); (try clear hcz49_1); (try clear hcz53_0); (try clear hcz53_1); (try clear hcz54_0); (try clear hcz54_1); (try clear hcz8_0); (try clear hcz8_1); (try clear hfz10_0); (try clear hfz10_1); (try clear hfz16_0); (try clear hfz16_1); (try clear hfz18_0); (try clear hfz18_1); (try clear hfz20_0); (try clear hfz20_1)
            (try clear hfz27_0); (try clear hfz27_1); (try clear hfz31_0); (try clear hfz31_1); (try clear hfz32_0); (try clear hfz32_1); (try clear hfz39_0); (try clear hfz39_1); (try clear hfz43_0); (try clear hfz43_1); (try clear hfz44_0); (try clear hfz44_1); (try clear hfz49_0); (try clear hfz49_1); (try clear hfz53_0); (try clear hfz53_1); (try clear hfz54_0); (try clear hfz54_1); (try clear hfz8_0); (try clear hfz8_1); (try clear hx167_0); (try clear hx179_0); (try clear p1); (try clear p16); (try clear p167); (try clear p179); (try clear p2); (try clear p6); (try clear q1); (try clear q16)
            (try clear q167); (try clear q179); obtain ⟨x61_3, rfl, HA, HK3, HO_1, HO_53, HO_59, BK163, HB⟩ := hrel
            cases gk with
            | zero => exact absurd HA.out (by simp [impl_Table_smallest.l2])
            | succ k3 =>
             have H := HA.out
             clear HA
             simp only [impl_Table_smallest.l2] at H
             by_cases c62 : x61_3 < (l1.length : Int)
             ·rw [if_pos c62] at H
              have c62b0 : decide (x61_3 < (l1.length : Int)) = true := decide_eq_true c62
              clear c62
              by_cases c63 : 0 ≤ x61_3
              ·rw [if_pos c63] at H
               have c63b0 : decide (0 ≤ x61_3) = true := decide_eq_true c63
               clear c63
               by_cases c64 : x61_3 < (l1.length : Int)
               ·rw [if_pos c64] at H
                have c64b0 : decide (x61_3 < (l1.length : Int)) = true := decide_eq_true c64
                clear c64; have HC65 := Aside0.mk H; clear H
                have p180 : 0 ≤ (x61_3 : Int) := of_decide_eq_true (by first | (with_reducible assumption) | assumption)
                have q180 : x61_3 < (l1.length : Int) := of_decide_eq_true (by first | (with_reducible assumption) | assumption)
                obtain ⟨ad180, e180, hx180_0⟩ := Kd.at_int (Kd.V_reads' HO_59.out).2.2 x61_3 p180 q180
                obtain rfl : ad167 = ad180 := (by injection e180)
                replace p180 := eq_true p180
                replace q180 := eq_true q180
                go_upto_region 21 with (fail)
                go_cut [76] (fun v76 wc => ∃ (kq : Nat) (x76_64 : Bool), v76 = .bool x76_64 ∧ Aside0 (impl_Table_smallest.j4 kq l1 (rd y176 x55_2) x61_3 (rd l1 x61_3) y176 (y176.length : Int) x55_2 l1 (l1.length : Int) x61_3 x76_64 a0_0 a0_1 = some r) ∧ Aside0 (kq ≤ k3) ∧ Aside0 (Kd.V (Kd.int .i64) 3 wc w.heap.size (fun k_ => (P1_ k_ ∨ w.heap.size ≤ k_) ∧ some k_ ≠ ((.slice (some ad179) y176.length co58) : Value).ownBlock ∧ k_ ≠ gb163) (.slice (some ad167) l1.length c1) l1) ∧ Aside0 (Kd.V (Kd.int .u8) 5 wc w.heap.size (fun k_ => (w.heap.size ≤ k_)) (.slice (some ad179) y176.length co58) y176) ∧ Aside0 (Kd.V (Kd.int .i64) 3 wc w.heap.size (fun k_ => (P1_ k_ ∨ w.heap.size ≤ k_) ∧ some k_ ≠ ((.slice (some ad179) y176.length co58) : Value).ownBlock ∧ k_ ≠ gb163) (.slice (some ad167) l1.length c1) l1) ∧ Aside0 (wc.heap[gb163]? = some (.cells #[.int .i64 a0_0, .int .i64 a0_1] 26 (0, 0))) ∧ Aside0 (Below w.heap.size w wc))
                case first =>
                 as_aux_lemma =>
                 have H := HC65.out
                 clear HC65
                 by_cases c66 : (rd l1 x61_3) < 1
                 ·rw [if_pos c66] at H
                  have c66b0 : decide ((rd l1 x61_3) < 1) = true := decide_eq_true c66
                  clear c66
                  (first | rw [c66b0] | (simp only [i64_w, i32_w]; rw [c66b0]) | skip)
                  have H' := Aside0.mk H
                  clear H
                  go_wp2
                  go_meet
                  case rel => exact ⟨_, (true), (by first | rfl | (simp; done) | (simp [*]; done)), H', ⟨by have := HJ13.out; have := HK2.out; have := HK3.out; first | omega | exact Nat.le_refl _⟩, ⟨by (with_reducible repeat (first | apply Kd.V_alloc | apply Kd.V_drewN | apply Kd.V_drew)); exact HO_1.out⟩, ⟨by (with_reducible repeat (first | apply Kd.V_alloc | apply Kd.V_drewN | apply Kd.V_drew)); exact HO_53.out⟩, ⟨by (with_reducible repeat (first | apply Kd.V_alloc | apply Kd.V_drewN | apply Kd.V_drew)); exact HO_59.out⟩, ⟨by (with_reducible repeat (first | refine blk_drewN ?_ _ | refine blk_drew ?_ | refine blk_alloc ?_ _)); exact BK163.out⟩, ⟨by repeat (first | (with_reducible first | exact HB.out | apply below_alloc | apply pw_below_drewN | apply below_drew1 | refine below_set ?_ GE163.out) | exact HB.out)⟩⟩
                 ·rw [if_neg c66] at H
                  have c66b0 : decide ((rd l1 x61_3) < 1) = false := decide_eq_false c66
                  clear c66
                  (first | rw [c66b0] | (simp only [i64_w, i32_w]; rw [c66b0]) | skip)
                  by_cases c67 : 0 ≤ a0_1
                  ·rw [if_pos c67] at H
                   have c67b0 : decide (0 ≤ a0_1) = true := decide_eq_true c67
                   clear c67
                   by_cases c68 : a0_1 < (l1.length : Int)
                   ·rw [if_pos c68] at H
                    have c68b0 : decide (a0_1 < (l1.length : Int)) = true := decide_eq_true c68
                    clear c68
                    have H' := Aside0.mk H
                    clear H
                    have hcz69_0 : wr.cell? ⟨gb163, 0, none⟩ = some (.int .i64 a0_0) := (blk_cell BK163.out 0).trans rfl
                    have hcz69_1 : wr.cell? ⟨gb163, 1, none⟩ = some (.int .i64 a0_1) := (blk_cell BK163.out 1).trans rfl
                    have hfz69_0 := blk_frozen BK163.out 0
                    have hfz69_1 := blk_frozen BK163.out 1
                    have p181 : 0 ≤ (a0_1 : Int) := of_decide_eq_true (by first | (with_reducible assumption) | assumption)
                    have q181 : a0_1 < (l1.length : Int) := of_decide_eq_true (by first | (with_reducible assumption) | assumption)
                    obtain ⟨ad181, e181, hx181_0⟩ := Kd.at_int (Kd.V_reads' HO_1.out).2.2 a0_1 p181 q181
                    obtain rfl : ad167 = ad181 := (by injection e181)
                    replace p181 := eq_true p181
                    replace q181 := eq_true q181
                    go_wp2
                    go_meet
                    case rel => exact ⟨_, (decide ((rd l1 x61_3) ≥ (rd l1 a0_1))), (by first | rfl | (simp; done) | (simp [*]; done)), H', ⟨by have := HJ13.out; have := HK2.out; have := HK3.out; first | omega | exact Nat.le_refl _⟩, ⟨by (with_reducible repeat (first | apply Kd.V_alloc | apply Kd.V_drewN | apply Kd.V_drew)); exact HO_1.out⟩, ⟨by (with_reducible repeat (first | apply Kd.V_alloc | apply Kd.V_drewN | apply Kd.V_drew)); exact HO_53.out⟩, ⟨by (with_reducible repeat (first | apply Kd.V_alloc | apply Kd.V_drewN | apply Kd.V_drew)); exact HO_59.out⟩, ⟨by (with_reducible repeat (first | refine blk_drewN ?_ _ | refine blk_drew ?_ | refine blk_alloc ?_ _)); exact BK163.out⟩, ⟨by repeat (first | (with_reducible first | exact HB.out | apply below_alloc | apply pw_below_drewN | apply below_drew1 | refine below_set ?_ GE163.out) | exact HB.out)⟩⟩
                   ·rw [if_neg c68] at H
                    exact absurd H (by simp)
                  ·rw [if_neg c67] at H
                   exact absurd H (by simp)
                case rest =>
                 as_aux_lemma =>
                 clear HC65; (try clear c1); (try clear p1); (try clear q1); (try clear hx1); (try clear c2); (try clear p2); (try clear hcv2); (try clear c3); (try clear hcv3); (try clear c4); (try clear hcv4); (try clear c5); (try clear c6); (try clear p6); (try clear c11); (try clear c12); (try clear c12b0); (try clear c13); (try clear c13b0); (try clear p16); (try clear q16); (try clear hx16); (try clear c17); (try clear p17); (try clear q17); (try clear hx17); (try clear c18); (try clear p18); (try clear q18); (try clear hx18); (try clear c19); (try clear c19b0); (try clear c19b1)
                 (try clear c20); (try clear c21); (try clear c21b0); (try clear c23); (try clear c23b0); (try clear c23b1); (try clear c23b2); (try clear hcv26); (try clear c30); (try clear c34); (try clear c34b0); (try clear c34b1); (try clear c34b2); (try clear c35); (try clear c35b0); (try clear c35b1); (try clear c35b2); (try clear hcv38); (try clear c42); (try clear hcv48); (try clear c52); (try clear c59); (try clear c59b0); (try clear c60); (try clear c60b0); (try clear c61); (try clear c61b0); (try clear c62); (try clear c62b0); (try clear c63); (try clear c63b0); (try clear c64)
                 (try clear c64b0); (try clear p64); (try clear c66); (try clear c66b0); (try clear c67); (try clear c67b0); (try clear c68); (try clear c68b0); (try clear hcz10_0); (try clear hcz10_1); (try clear hcz16_0); (try clear hcz16_1); (try clear hcz18_0); (try clear hcz18_1); (try clear hcz20_0); (try clear hcz20_1); (try clear hcz27_0); (try clear hcz27_1); (try clear hcz31_0); (try clear hcz31_1); (try clear hcz32_0); (try clear hcz32_1); (try clear hcz39_0); (try clear hcz39_1); (try clear hcz43_0); (try clear hcz43_1); (try clear hcz44_0); (try clear hcz44_1); (try clear hcz49_0)
                 (try clear hcz49_1); (try clear hcz53_0); (try clear hcz53_1); (try clear hcz54_0); (try clear hcz54_1); (try clear hcz69_0); (try clear hcz69_1); (try clear hcz8_0); (try clear hcz8_1); (try clear hfz10_0); (try clear hfz10_1); (try clear hfz16_0); (try clear hfz16_1); (try clear hfz18_0); (try clear hfz18_1); (try clear hfz20_0); (try clear hfz20_1); (try clear hfz27_0); (try clear hfz27_1); (try clear hfz31_0); (try clear hfz31_1); (try clear hfz32_0); (try clear hfz32_1); (try clear hfz39_0); (try clear hfz39_1); (try clear hfz43_0); (try clear hfz43_1); (try clear hfz44_0)
                 (try clear hfz44_1); (try clear hfz49_0); (try clear hfz49_1); (try clear hfz53_0); (try clear hfz53_1); (try clear hfz54_0); (try clear hfz54_1); (try clear hfz69_0); (try clear hfz69_1); (try clear hfz8_0); (try clear hfz8_1); (try clear hx167_0); (try clear hx179_0); (try clear hx180_0); (try clear hx181_0); (try clear p1); (try clear p16); (try clear p167); (try clear p17); (try clear p179); (try clear p180); (try clear p181); (try clear p2); (try clear p6); (try clear q1); (try clear q16); (try clear q167); (try clear q17); (try clear q179); (try clear q180)
                 (try clear q181); obtain ⟨kq, x76_64, rfl, HA, HJ64, HO_1, HO_53, HO_59, BK163, HB⟩ := hcut
                 cases kq with
                 | zero => exact absurd HA.out (by simp [impl_Table_smallest.j4])
                 | succ kj64 =>
                  have H := HA.out
                  clear HA
                  simp only [impl_Table_smallest.j4] at H
                  by_cases c70 : x76_64 = true
                  ·subst c70
                   have H1 : (impl_Table_smallest.l2 kj64 l1 (rd y176 x55_2) y176 (y176.length : Int) x55_2 l1 (l1.length : Int) (wrap64 (x61_3 + 1)) a0_0 a0_1) = some r := by rw [if_pos rfl] at H; exact H
                   clear H; have H := H1; clear H1
                   have H' := Aside0.mk H
                   clear H
                   go_wp2
                   go_roundg kj64
                   case measure => have := HJ13.out; have := HK2.out; have := HK3.out; have := HJ64.out; omega
                   case rel => exact ⟨(wrap64 (x61_3 + 1)), (by first | rfl | (simp; done) | (simp [*]; done)), H', ⟨by have := HJ13.out; have := HK2.out; have := HK3.out; have := HJ64.out; omega⟩, ⟨by (with_reducible repeat (first | apply Kd.V_alloc | apply Kd.V_drewN | apply Kd.V_drew)); exact HO_1.out⟩, ⟨by (with_reducible repeat (first | apply Kd.V_alloc | apply Kd.V_drewN | apply Kd.V_drew)); exact HO_53.out⟩, ⟨by (with_reducible repeat (first | apply Kd.V_alloc | apply Kd.V_drewN | apply Kd.V_drew)); exact HO_59.out⟩, ⟨by (with_reducible repeat (first | refine blk_drewN ?_ _ | refine blk_drew ?_ | refine blk_alloc ?_ _)); exact BK163.out⟩, ⟨by repeat (first | (with_reducible first | exact HB.out | apply below_alloc | apply pw_below_drewN | apply below_drew1 | refine below_set ?_ GE163.out) | exact HB.out)⟩⟩
                  ·replace c70 := Bool.eq_false_iff.mpr c70
                   subst c70
                   have H1 : (impl_Table_smallest.l3 kj64 l1 (rd y176 x55_2) x61_3 (rd l1 x61_3) y176 (y176.length : Int) x55_2 l1 (l1.length : Int) x61_3 l1 (l1.length : Int) 0 a0_0 a0_1) = some r := by rw [if_neg (show ¬ (false = true) by decide)] at H; exact H
                   clear H; have H := H1; clear H1
                   have H' := Aside0.mk H
                   clear H
                   go_wp2
                   go_loopg [79] kj64 (fun kq v79 w' => ∃ (x79_5 : Int), v79 = .int .i64 x79_5 ∧ Aside0 (impl_Table_smallest.l3 kq l1 (rd y176 x55_2) x61_3 (rd l1 x61_3) y176 (y176.length : Int) x55_2 l1 (l1.length : Int) x61_3 l1 (l1.length : Int) x79_5 a0_0 a0_1 = some r) ∧ Aside0 (kq ≤ kj64) ∧ Aside0 (Kd.V (Kd.int .i64) 3 w' w.heap.size (fun k_ => (P1_ k_ ∨ w.heap.size ≤ k_) ∧ some k_ ≠ ((.slice (some ad179) y176.length co58) : Value).ownBlock ∧ k_ ≠ gb163) (.slice (some ad167) l1.length c1) l1) ∧ Aside0 (Kd.V (Kd.int .u8) 5 w' w.heap.size (fun k_ => (w.heap.size ≤ k_)) (.slice (some ad179) y176.length co58) y176) ∧ Aside0 (Kd.V (Kd.int .i64) 3 w' w.heap.size (fun k_ => (P1_ k_ ∨ w.heap.size ≤ k_) ∧ some k_ ≠ ((.slice (some ad179) y176.length co58) : Value).ownBlock ∧ k_ ≠ gb163) (.slice (some ad167) l1.length c1) l1) ∧ Aside0 (Kd.V (Kd.int .i64) 3 w' w.heap.size (fun k_ => (P1_ k_ ∨ w.heap.size ≤ k_) ∧ some k_ ≠ ((.slice (some ad179) y176.length co58) : Value).ownBlock ∧ k_ ≠ gb163) (.slice (some ad167) l1.length c1) l1) ∧ Aside0 (w'.heap[gb163]? = some (.cells #[.int .i64 a0_0, .int .i64 a0_1] 26 (0, 0))) ∧ Aside0 (Below w.heap.size w w'))
                   case atStart => exact ⟨(0), (by first | rfl | (simp; done) | (simp [*]; done)), H', ⟨Nat.le_refl _⟩, ⟨by (with_reducible repeat (first | apply Kd.V_alloc | apply Kd.V_drewN | apply Kd.V_drew)); exact HO_1.out⟩, ⟨by (with_reducible repeat (first | apply Kd.V_alloc | apply Kd.V_drewN | apply Kd.V_drew)); exact HO_53.out⟩, ⟨by (with_reducible repeat (first | apply Kd.V_alloc | apply Kd.V_drewN | apply Kd.V_drew)); exact HO_59.out⟩, ⟨by (with_reducible repeat (first | apply Kd.V_alloc | apply Kd.V_drewN | apply Kd.V_drew)); exact HO_1.out⟩, ⟨by (with_reducible repeat (first | refine blk_drewN ?_ _ | refine blk_drew ?_ | refine blk_alloc ?_ _)); exact BK163.out⟩, ⟨by repeat (first | (with_reducible first | exact HB.out | apply below_alloc | apply pw_below_drewN | apply below_drew1 | refine below_set ?_ GE163.out) | exact HB.out)⟩⟩
                   case round =>
                    as_aux_lemma =>
                    clear H'; (try clear c1); (try clear p1); (try clear q1); (try clear hx1); (try clear c2); (try clear p2); (try clear hcv2); (try clear c3); (try clear hcv3); (try clear c4); (try clear hcv4); (try clear c5); (try clear c6); (try clear p6); (try clear c7); (try clear c11); (try clear c12); (try clear c12b0); (try clear c13); (try clear c13b0); (try clear p16); (try clear q16); (try clear hx16); (try clear c17); (try clear p17); (try clear q17); (try clear hx17); (try clear c18); (try clear p18); (try clear q18); (try clear hx18); (try clear c19); (try clear c19b0)
                    (try clear c19b1); (try clear c20); (try clear c21); (try clear c21b0); (try clear c23); (try clear c23b0); (try clear c23b1); (try clear c23b2); (try clear hcv26); (try clear c30); (try clear c34); (try clear c34b0); (try clear c34b1); (try clear c34b2); (try clear c35); (try clear c35b0); (try clear c35b1); (try clear c35b2); (try clear hcv38); (try clear c42); (try clear hcv48); (try clear c52); (try clear c59); (try clear c59b0); (try clear c60); (try clear c60b0); (try clear c61); (try clear c61b0); (try clear c62); (try clear c62b0); (try clear c63)
                    (try clear c63b0); (try clear c64); (try clear c64b0); (try clear p64); (try clear c66); (try clear c66b0); (try clear c67); (try clear c67b0); (try clear c68); (try clear c68b0); (try clear c70); (try clear hcz10_0); (try clear hcz10_1); (try clear hcz16_0); (try clear hcz16_1); (try clear hcz18_0); (try clear hcz18_1); (try clear hcz20_0); (try clear hcz20_1); (try clear hcz27_0); (try clear hcz27_1); (try clear hcz31_0); (try clear hcz31_1); (try clear hcz32_0); (try clear hcz32_1); (try clear hcz39_0); (try clear hcz39_1); (try clear hcz43_0); (try clear hcz43_1)
                    (try clear hcz44_0); (try clear hcz44_1); (try clear hcz49_0); (try clear hcz49_1); (try clear hcz53_0); (try clear hcz53_1); (try clear hcz54_0); (try clear hcz54_1); (try clear hcz69_0); (try clear hcz69_1); (try clear hcz8_0); (try clear hcz8_1); (try clear hfz10_0); (try clear hfz10_1); (try clear hfz16_0); (try clear hfz16_1); (try clear hfz18_0); (try clear hfz18_1); (try clear hfz20_0); (try clear hfz20_1); (try clear hfz27_0); (try clear hfz27_1); (try clear hfz31_0); (try clear hfz31_1); (try clear hfz32_0); (try clear hfz32_1); (try clear hfz39_0)
                    (try clear hfz39_1); (try clear hfz43_0); (try clear hfz43_1); (try clear hfz44_0); (try clear hfz44_1); (try clear hfz49_0); (try clear hfz49_1); (try clear hfz53_0); (try clear hfz53_1); (try clear hfz54_0); (try clear hfz54_1); (try clear hfz69_0); (try clear hfz69_1); (try clear hfz8_0); (try clear hfz8_1); (try clear hx167_0); (try clear hx179_0); (try clear hx180_0); (try clear hx181_0); (try clear p1); (try clear p16); (try clear p167); (try clear p17); (try clear p179); (try clear p18); (try clear p180); (try clear p181); (try clear p2); (try clear p6)
                    (try clear p64); (try clear q1); (try clear q16); (try clear q167); (try clear q17); (try clear q179); (try clear q18); (try clear q180); (try clear q181); obtain ⟨x79_5, rfl, HA, HK5, HO_1, HO_53, HO_59, HO_77, BK163, HB⟩ := hrel
                    cases gk with
                    | zero => exact absurd HA.out (by simp [impl_Table_smallest.l3])
                    | succ k5 =>
                     have H := HA.out
                     clear HA
                     simp only [impl_Table_smallest.l3] at H
                     by_cases c71 : x79_5 < (l1.length : Int)
                     ·rw [if_pos c71] at H
                      have c71b0 : decide (x79_5 < (l1.length : Int)) = true := decide_eq_true c71
                      clear c71
                      by_cases c72 : 0 ≤ x79_5
                      ·rw [if_pos c72] at H
                       have c72b0 : decide (0 ≤ x79_5) = true := decide_eq_true c72
                       clear c72
                       by_cases c73 : x79_5 < (l1.length : Int)
                       ·rw [if_pos c73] at H
                        have c73b0 : decide (x79_5 < (l1.length : Int)) = true := decide_eq_true c73
                        clear c73; have HC74 := Aside0.mk H; clear H
                        have p182 : 0 ≤ (x79_5 : Int) := of_decide_eq_true (by first | (with_reducible assumption) | assumption)
                        have q182 : x79_5 < (l1.length : Int) := of_decide_eq_true (by first | (with_reducible assumption) | assumption)
                        obtain ⟨ad182, e182, hx182_0⟩ := Kd.at_int (Kd.V_reads' HO_77.out).2.2 x79_5 p182 q182
                        obtain rfl : ad167 = ad182 := (by injection e182)
                        replace p182 := eq_true p182
                        replace q182 := eq_true q182
                        go_upto_if 88 with (fail)
                        go_cut [14] (fun v14 wc => ∃ (kq : Nat) (x14_73 : Int), v14 = .int .i64 x14_73 ∧ Aside0 (impl_Table_smallest.j6 kq l1 (rd y176 x55_2) x61_3 (rd l1 x61_3) x79_5 (rd l1 x79_5) x14_73 y176 (y176.length : Int) x55_2 l1 (l1.length : Int) x61_3 l1 (l1.length : Int) x79_5 a0_0 a0_1 = some r) ∧ Aside0 (kq ≤ k5) ∧ Aside0 (Kd.V (Kd.int .i64) 3 wc w.heap.size (fun k_ => (P1_ k_ ∨ w.heap.size ≤ k_) ∧ some k_ ≠ ((.slice (some ad179) y176.length co58) : Value).ownBlock ∧ k_ ≠ gb163) (.slice (some ad167) l1.length c1) l1) ∧ Aside0 (Kd.V (Kd.int .u8) 5 wc w.heap.size (fun k_ => (w.heap.size ≤ k_)) (.slice (some ad179) y176.length co58) y176) ∧ Aside0 (Kd.V (Kd.int .i64) 3 wc w.heap.size (fun k_ => (P1_ k_ ∨ w.heap.size ≤ k_) ∧ some k_ ≠ ((.slice (some ad179) y176.length co58) : Value).ownBlock ∧ k_ ≠ gb163) (.slice (some ad167) l1.length c1) l1) ∧ Aside0 (Kd.V (Kd.int .i64) 3 wc w.heap.size (fun k_ => (P1_ k_ ∨ w.heap.size ≤ k_) ∧ some k_ ≠ ((.slice (some ad179) y176.length co58) : Value).ownBlock ∧ k_ ≠ gb163) (.slice (some ad167) l1.length c1) l1) ∧ Aside0 (wc.heap[gb163]? = some (.cells #[.int .i64 a0_0, .int .i64 a0_1] 26 (0, 0))) ∧ Aside0 (Below w.heap.size w wc))
                        case first =>
                         as_aux_lemma =>
                         have H := HC74.out
                         clear HC74
                         by_cases c75 : (rd y176 x55_2) = 124
                         ·rw [if_pos c75] at H
                          have c75b0 : ((rd y176 x55_2) == 124) = true := beq_iff_eq.mpr c75
                          have c75b1 : ((rd y176 x55_2) != 124) = false := bne_eq_false_iff_eq.mpr c75
                          clear c75
                          (first | rw [c75b0] | (simp only [i64_w, i32_w]; rw [c75b0]) | skip)
                          have H' := Aside0.mk H
                          clear H
                          go_wp2
                          go_meet
                          case rel => exact ⟨_, (Go.bits .or .i64 x61_3 x79_5), (by first | rfl | (simp; done) | (simp [*]; done)), H', ⟨by have := HJ13.out; have := HK2.out; have := HK3.out; have := HJ64.out; have := HK5.out; first | omega | exact Nat.le_refl _⟩, ⟨by (with_reducible repeat (first | apply Kd.V_alloc | apply Kd.V_drewN | apply Kd.V_drew)); exact HO_1.out⟩, ⟨by (with_reducible repeat (first | apply Kd.V_alloc | apply Kd.V_drewN | apply Kd.V_drew)); exact HO_53.out⟩, ⟨by (with_reducible repeat (first | apply Kd.V_alloc | apply Kd.V_drewN | apply Kd.V_drew)); exact HO_59.out⟩, ⟨by (with_reducible repeat (first | apply Kd.V_alloc | apply Kd.V_drewN | apply Kd.V_drew)); exact HO_77.out⟩, ⟨by (with_reducible repeat (first | refine blk_drewN ?_ _ | refine blk_drew ?_ | refine blk_alloc ?_ _)); exact BK163.out⟩, ⟨by repeat (first | (with_reducible first | exact HB.out | apply below_alloc | apply pw_below_drewN | apply below_drew1 | refine below_set ?_ GE163.out) | exact HB.out)⟩⟩
                         ·rw [if_neg c75] at H
                          have c75b0 : ((rd y176 x55_2) == 124) = false := beq_eq_false_iff_ne.mpr c75
                          have c75b1 : ((rd y176 x55_2) != 124) = true := bne_iff_ne.mpr c75
                          (first | rw [c75b0] | (simp only [i64_w, i32_w]; rw [c75b0]) | skip)
                          have H' := Aside0.mk H
                          clear H
                          go_wp2
                          go_meet
                          case rel => exact ⟨_, (Go.bits .and .i64 x61_3 x79_5), (by first | rfl | (simp; done) | (simp [*]; done)), H', ⟨by have := HJ13.out; have := HK2.out; have := HK3.out; have := HJ64.out; have := HK5.out; first | omega | exact Nat.le_refl _⟩, ⟨by (with_reducible repeat (first | apply Kd.V_alloc | apply Kd.V_drewN | apply Kd.V_drew)); exact HO_1.out⟩, ⟨by (with_reducible repeat (first | apply Kd.V_alloc | apply Kd.V_drewN | apply Kd.V_drew)); exact HO_53.out⟩, ⟨by (with_reducible repeat (first | apply Kd.V_alloc | apply Kd.V_drewN | apply Kd.V_drew)); exact HO_59.out⟩, ⟨by (with_reducible repeat (first | apply Kd.V_alloc | apply Kd.V_drewN | apply Kd.V_drew)); exact HO_77.out⟩, ⟨by (with_reducible repeat (first | refine blk_drewN ?_ _ | refine blk_drew ?_ | refine blk_alloc ?_ _)); exact BK163.out⟩, ⟨by repeat (first | (with_reducible first | exact HB.out | apply below_alloc | apply pw_below_drewN | apply below_drew1 | refine below_set ?_ GE163.out) | exact HB.out)⟩⟩
                        case rest =>
                         as_aux_lemma =>
                         clear HC74; (try clear c1); (try clear p1); (try clear q1); (try clear hx1); (try clear c2); (try clear p2); (try clear hcv2); (try clear c3); (try clear hcv3); (try clear c4); (try clear hcv4); (try clear c5); (try clear c6); (try clear p6); (try clear c7); (try clear c11); (try clear c12); (try clear c12b0); (try clear c13); (try clear c13b0); (try clear p16); (try clear q16); (try clear hx16); (try clear c17); (try clear p17); (try clear q17); (try clear hx17); (try clear c18); (try clear p18); (try clear q18); (try clear hx18); (try clear c19)
                         (try clear c19b0); (try clear c19b1); (try clear c20); (try clear c21); (try clear c21b0); (try clear c23); (try clear c23b0); (try clear c23b1); (try clear c23b2); (try clear hcv26); (try clear c30); (try clear c34); (try clear c34b0); (try clear c34b1); (try clear c34b2); (try clear c35); (try clear c35b0); (try clear c35b1); (try clear c35b2); (try clear hcv38); (try clear c42); (try clear hcv48); (try clear c52); (try clear c59); (try clear c59b0); (try clear c60); (try clear c60b0); (try clear c61); (try clear c61b0); (try clear c62); (try clear c62b0)
                         (try clear c63); (try clear c63b0); (try clear c64); (try clear c64b0); (try clear p64); (try clear c66); (try clear c66b0); (try clear c67); (try clear c67b0); (try clear c68); (try clear c68b0); (try clear c70); (try clear c71); (try clear c71b0); (try clear c72); (try clear c72b0); (try clear c73); (try clear c73b0); (try clear c75); (try clear c75b0); (try clear c75b1); (try clear hcz10_0); (try clear hcz10_1); (try clear hcz16_0); (try clear hcz16_1); (try clear hcz18_0); (try clear hcz18_1); (try clear hcz20_0); (try clear hcz20_1); (try clear hcz27_0)
                         (try clear hcz27_1); (try clear hcz31_0); (try clear hcz31_1); (try clear hcz32_0); (try clear hcz32_1); (try clear hcz39_0); (try clear hcz39_1); (try clear hcz43_0); (try clear hcz43_1); (try clear hcz44_0); (try clear hcz44_1); (try clear hcz49_0); (try clear hcz49_1); (try clear hcz53_0); (try clear hcz53_1); (try clear hcz54_0); (try clear hcz54_1); (try clear hcz69_0); (try clear hcz69_1); (try clear hcz8_0); (try clear hcz8_1); (try clear hfz10_0); (try clear hfz10_1); (try clear hfz16_0); (try clear hfz16_1); (try clear hfz18_0); (try clear hfz18_1)
                         (try clear hfz20_0); (try clear hfz20_1); (try clear hfz27_0); (try clear hfz27_1); (try clear hfz31_0); (try clear hfz31_1); (try clear hfz32_0); (try clear hfz32_1); (try clear hfz39_0); (try clear hfz39_1); (try clear hfz43_0); (try clear hfz43_1); (try clear hfz44_0); (try clear hfz44_1); (try clear hfz49_0); (try clear hfz49_1); (try clear hfz53_0); (try clear hfz53_1); (try clear hfz54_0); (try clear hfz54_1); (try clear hfz69_0); (try clear hfz69_1); (try clear hfz8_0); (try clear hfz8_1); (try clear hx167_0); (try clear hx179_0); (try clear hx180_0)
                         (try clear hx181_0); (try clear hx182_0); (try clear p1); (try clear p16); (try clear p167); (try clear p17); (try clear p179); (try clear p18); (try clear p180); (try clear p181); (try clear p182); (try clear p2); (try clear p6); (try clear p64); (try clear q1); (try clear q16); (try clear q167); (try clear q17); (try clear q179); (try clear q18); (try clear q180); (try clear q181); (try clear q182); obtain ⟨kq, x14_73, rfl, HA, HJ73, HO_1, HO_53, HO_59, HO_77, BK163, HB⟩ := hcut
                         cases kq with
                         | zero => exact absurd HA.out (by simp [impl_Table_smallest.j6])
                         | succ kj73 =>
                          have H := HA.out
                          clear HA
                          simp only [impl_Table_smallest.j6] at H
                          have HC76 := Aside0.mk H; clear H
                          go_upto_region 28 with (fail)
                          go_cut [110] (fun v110 wc => ∃ (kq : Nat) (x110_75 : Bool), v110 = .bool x110_75 ∧ Aside0 (impl_Table_smallest.j7 kq l1 (rd y176 x55_2) x61_3 (rd l1 x61_3) x79_5 y176 (y176.length : Int) x55_2 l1 (l1.length : Int) x61_3 l1 (l1.length : Int) x79_5 x110_75 a0_0 a0_1 = some r) ∧ Aside0 (kq ≤ kj73) ∧ Aside0 (Kd.V (Kd.int .i64) 3 wc w.heap.size (fun k_ => (P1_ k_ ∨ w.heap.size ≤ k_) ∧ some k_ ≠ ((.slice (some ad179) y176.length co58) : Value).ownBlock ∧ k_ ≠ gb163) (.slice (some ad167) l1.length c1) l1) ∧ Aside0 (Kd.V (Kd.int .u8) 5 wc w.heap.size (fun k_ => (w.heap.size ≤ k_)) (.slice (some ad179) y176.length co58) y176) ∧ Aside0 (Kd.V (Kd.int .i64) 3 wc w.heap.size (fun k_ => (P1_ k_ ∨ w.heap.size ≤ k_) ∧ some k_ ≠ ((.slice (some ad179) y176.length co58) : Value).ownBlock ∧ k_ ≠ gb163) (.slice (some ad167) l1.length c1) l1) ∧ Aside0 (Kd.V (Kd.int .i64) 3 wc w.heap.size (fun k_ => (P1_ k_ ∨ w.heap.size ≤ k_) ∧ some k_ ≠ ((.slice (some ad179) y176.length co58) : Value).ownBlock ∧ k_ ≠ gb163) (.slice (some ad167) l1.length c1) l1) ∧ Aside0 (wc.heap[gb163]? = some (.cells #[.int .i64 a0_0, .int .i64 a0_1] 26 (0, 0))) ∧ Aside0 (Below w.heap.size w wc))
                          case first =>
                           as_aux_lemma =>
                           have H := HC76.out
                           clear HC76
                           by_cases c77 : (rd l1 x79_5) ≥ 1
                           ·rw [if_pos c77] at H
                            have c77b0 : decide (1 ≤ (rd l1 x79_5)) = true := decide_eq_true c77
                            clear c77
                            (first | rw [c77b0] | (simp only [i64_w, i32_w]; rw [c77b0]) | skip)
                            by_cases c78 : 0 ≤ a0_1
                            ·rw [if_pos c78] at H
                             have c78b0 : decide (0 ≤ a0_1) = true := decide_eq_true c78
                             clear c78
                             by_cases c79 : a0_1 < (l1.length : Int)
                             ·rw [if_pos c79] at H
                              have c79b0 : decide (a0_1 < (l1.length : Int)) = true := decide_eq_true c79
                              clear c79
                              by_cases c80 : (wrap64 ((rd l1 x61_3) + (rd l1 x79_5))) = (rd l1 a0_1)
                              ·rw [if_pos c80] at H
                               have c80b0 : ((wrap64 ((rd l1 x61_3) + (rd l1 x79_5))) == (rd l1 a0_1)) = true := beq_iff_eq.mpr c80
                               have c80b1 : ((wrap64 ((rd l1 x61_3) + (rd l1 x79_5))) != (rd l1 a0_1)) = false := bne_eq_false_iff_eq.mpr c80
                               clear c80
                               have H' := Aside0.mk H
                               clear H
                               have hcz81_0 : wc.cell? ⟨gb163, 0, none⟩ = some (.int .i64 a0_0) := (blk_cell BK163.out 0).trans rfl
                               have hcz81_1 : wc.cell? ⟨gb163, 1, none⟩ = some (.int .i64 a0_1) := (blk_cell BK163.out 1).trans rfl
                               have hfz81_0 := blk_frozen BK163.out 0
                               have hfz81_1 := blk_frozen BK163.out 1
                               have p183 : 0 ≤ (a0_1 : Int) := of_decide_eq_true (by first | (with_reducible assumption) | assumption)
                               have q183 : a0_1 < (l1.length : Int) := of_decide_eq_true (by first | (with_reducible assumption) | assumption)
                               obtain ⟨ad183, e183, hx183_0⟩ := Kd.at_int (Kd.V_reads' HO_1.out).2.2 a0_1 p183 q183
                               obtain rfl : ad167 = ad183 := (by injection e183)
                               replace p183 := eq_true p183
                               replace q183 := eq_true q183
                               go_wp2
                               go_meet
                               case rel => exact ⟨_, ((x14_73 == a0_1)), (by first | rfl | (simp; done) | (simp [*]; done)), H', ⟨by have := HJ13.out; have := HK2.out; have := HK3.out; have := HJ64.out; have := HK5.out; have := HJ73.out; first | omega | exact Nat.le_refl _⟩, ⟨by (with_reducible repeat (first | apply Kd.V_alloc | apply Kd.V_drewN | apply Kd.V_drew)); exact HO_1.out⟩, ⟨by (with_reducible repeat (first | apply Kd.V_alloc | apply Kd.V_drewN | apply Kd.V_drew)); exact HO_53.out⟩, ⟨by (with_reducible repeat (first | apply Kd.V_alloc | apply Kd.V_drewN | apply Kd.V_drew)); exact HO_59.out⟩, ⟨by (with_reducible repeat (first | apply Kd.V_alloc | apply Kd.V_drewN | apply Kd.V_drew)); exact HO_77.out⟩, ⟨by (with_reducible repeat (first | refine blk_drewN ?_ _ | refine blk_drew ?_ | refine blk_alloc ?_ _)); exact BK163.out⟩, ⟨by repeat (first | (with_reducible first | exact HB.out | apply below_alloc | apply pw_below_drewN | apply below_drew1 | refine below_set ?_ GE163.out) | exact HB.out)⟩⟩
                              ·rw [if_neg c80] at H
                               have c80b0 : ((wrap64 ((rd l1 x61_3) + (rd l1 x79_5))) == (rd l1 a0_1)) = false := beq_eq_false_iff_ne.mpr c80
                               have c80b1 : ((wrap64 ((rd l1 x61_3) + (rd l1 x79_5))) != (rd l1 a0_1)) = true := bne_iff_ne.mpr c80
                               have H' := Aside0.mk H
                               clear H
                               have hcz82_0 : wc.cell? ⟨gb163, 0, none⟩ = some (.int .i64 a0_0) := (blk_cell BK163.out 0).trans rfl
                               have hcz82_1 : wc.cell? ⟨gb163, 1, none⟩ = some (.int .i64 a0_1) := (blk_cell BK163.out 1).trans rfl
                               have hfz82_0 := blk_frozen BK163.out 0
                               have hfz82_1 := blk_frozen BK163.out 1
                               have p183 : 0 ≤ (a0_1 : Int) := of_decide_eq_true (by first | (with_reducible assumption) | assumption)
                               have q183 : a0_1 < (l1.length : Int) := of_decide_eq_true (by first | (with_reducible assumption) | assumption)
                               obtain ⟨ad183, e183, hx183_0⟩ := Kd.at_int (Kd.V_reads' HO_1.out).2.2 a0_1 p183 q183
                               obtain rfl : ad167 = ad183 := (by injection e183)
                               replace p183 := eq_true p183
                               replace q183 := eq_true q183
                               go_wp2
                               go_meet
                               case rel => exact ⟨_, (false), (by first | rfl | (simp; done) | (simp [*]; done)), H', ⟨by have := HJ13.out; have := HK2.out; have := HK3.out; have := HJ64.out; have := HK5.out; have := HJ73.out; first | omega | exact Nat.le_refl _⟩, ⟨by (with_reducible repeat (first | apply Kd.V_alloc | apply Kd.V_drewN | apply Kd.V_drew)); exact HO_1.out⟩, ⟨by (with_reducible repeat (first | apply Kd.V_alloc | apply Kd.V_drewN | apply Kd.V_drew)); exact HO_53.out⟩, ⟨by (with_reducible repeat (first | apply Kd.V_alloc | apply Kd.V_drewN | apply Kd.V_drew)); exact HO_59.out⟩, ⟨by (with_reducible repeat (first | apply Kd.V_alloc | apply Kd.V_drewN | apply Kd.V_drew)); exact HO_77.out⟩, ⟨by (with_reducible repeat (first | refine blk_drewN ?_ _ | refine blk_drew ?_ | refine blk_alloc ?_ _)); exact BK163.out⟩, ⟨by repeat (first | (with_reducible first | exact HB.out | apply below_alloc | apply pw_below_drewN | apply below_drew1 | refine below_set ?_ GE163.out) | exact HB.out)⟩⟩
                             ·rw [if_neg c79] at H
                              exact absurd H (by simp)
                            ·rw [if_neg c78] at H
                             exact absurd H (by simp)
                           ·rw [if_neg c77] at H
                            have c77b0 : decide (1 ≤ (rd l1 x79_5)) = false := decide_eq_false c77
                            clear c77
                            (first | rw [c77b0] | (simp only [i64_w, i32_w]; rw [c77b0]) | skip)
                            have H' := Aside0.mk H
                            clear H
                            go_wp2
                            go_meet
                            case rel => exact ⟨_, (false), (by first | rfl | (simp; done) | (simp [*]; done)), H', ⟨by have := HJ13.out; have := HK2.out; have := HK3.out; have := HJ64.out; have := HK5.out; have := HJ73.out; first | omega | exact Nat.le_refl _⟩, ⟨by (with_reducible repeat (first | apply Kd.V_alloc | apply Kd.V_drewN | apply Kd.V_drew)); exact HO_1.out⟩, ⟨by (with_reducible repeat (first | apply Kd.V_alloc | apply Kd.V_drewN | apply Kd.V_drew)); exact HO_53.out⟩, ⟨by (with_reducible repeat (first | apply Kd.V_alloc | apply Kd.V_drewN | apply Kd.V_drew)); exact HO_59.out⟩, ⟨by (with_reducible repeat (first | apply Kd.V_alloc | apply Kd.V_drewN | apply Kd.V_drew)); exact HO_77.out⟩, ⟨by (with_reducible repeat (first | refine blk_drewN ?_ _ | refine blk_drew ?_ | refine blk_alloc ?_ _)); exact BK163.out⟩, ⟨by repeat (first | (with_reducible first | exact HB.out | apply below_alloc | apply pw_below_drewN | apply below_drew1 | refine below_set ?_ GE163.out) | exact HB.out)⟩⟩
                          case rest =>
                           as_aux_lemma =>
                           clear HC76; (try clear c1); (try clear p1); (try clear q1); (try clear hx1); (try clear c2); (try clear p2); (try clear hcv2); (try clear c3); (try clear hcv3); (try clear c4); (try clear hcv4); (try clear c5); (try clear c6); (try clear p6); (try clear c7); (try clear c8); (try clear c11); (try clear c12); (try clear c12b0); (try clear c13); (try clear c13b0); (try clear p16); (try clear q16); (try clear hx16); (try clear c17); (try clear p17); (try clear q17); (try clear hx17); (try clear c18); (try clear p18); (try clear q18); (try clear hx18)
                           (try clear c19); (try clear c19b0); (try clear c19b1); (try clear c20); (try clear c21); (try clear c21b0); (try clear c23); (try clear c23b0); (try clear c23b1); (try clear c23b2); (try clear hcv26); (try clear c30); (try clear c34); (try clear c34b0); (try clear c34b1); (try clear c34b2); (try clear c35); (try clear c35b0); (try clear c35b1); (try clear c35b2); (try clear hcv38); (try clear c42); (try clear hcv48); (try clear c52); (try clear c59); (try clear c59b0); (try clear c60); (try clear c60b0); (try clear c61); (try clear c61b0); (try clear c62)
                           (try clear c62b0); (try clear c63); (try clear c63b0); (try clear c64); (try clear c64b0); (try clear p64); (try clear c66); (try clear c66b0); (try clear c67); (try clear c67b0); (try clear c68); (try clear c68b0); (try clear c70); (try clear c71); (try clear c71b0); (try clear c72); (try clear c72b0); (try clear c73); (try clear c73b0); (try clear c75); (try clear c75b0); (try clear c75b1); (try clear c77); (try clear c77b0); (try clear c78); (try clear c78b0); (try clear c79); (try clear c79b0); (try clear c80); (try clear c80b0); (try clear c80b1)
                           (try clear hcz10_0); (try clear hcz10_1); (try clear hcz16_0); (try clear hcz16_1); (try clear hcz18_0); (try clear hcz18_1); (try clear hcz20_0); (try clear hcz20_1); (try clear hcz27_0); (try clear hcz27_1); (try clear hcz31_0); (try clear hcz31_1); (try clear hcz32_0); (try clear hcz32_1); (try clear hcz39_0); (try clear hcz39_1); (try clear hcz43_0); (try clear hcz43_1); (try clear hcz44_0); (try clear hcz44_1); (try clear hcz49_0); (try clear hcz49_1); (try clear hcz53_0); (try clear hcz53_1); (try clear hcz54_0); (try clear hcz54_1); (try clear hcz69_0)
                           (try clear hcz69_1); (try clear hcz81_0); (try clear hcz81_1); (try clear hcz82_0); (try clear hcz82_1); (try clear hcz8_0); (try clear hcz8_1); (try clear hfz10_0); (try clear hfz10_1); (try clear hfz16_0); (try clear hfz16_1); (try clear hfz18_0); (try clear hfz18_1); (try clear hfz20_0); (try clear hfz20_1); (try clear hfz27_0); (try clear hfz27_1); (try clear hfz31_0); (try clear hfz31_1); (try clear hfz32_0); (try clear hfz32_1); (try clear hfz39_0); (try clear hfz39_1); (try clear hfz43_0); (try clear hfz43_1); (try clear hfz44_0); (try clear hfz44_1)
                           (try clear hfz49_0); (try clear hfz49_1); (try clear hfz53_0); (try clear hfz53_1); (try clear hfz54_0); (try clear hfz54_1); (try clear hfz69_0); (try clear hfz69_1); (try clear hfz81_0); (try clear hfz81_1); (try clear hfz82_0); (try clear hfz82_1); (try clear hfz8_0); (try clear hfz8_1); (try clear hx167_0); (try clear hx179_0); (try clear hx180_0); (try clear hx181_0); (try clear hx182_0); (try clear hx183_0); (try clear p1); (try clear p16); (try clear p167); (try clear p17); (try clear p179); (try clear p18); (try clear p180); (try clear p181)
                           (try clear p182); (try clear p183); (try clear p2); (try clear p6); (try clear p64); (try clear q1); (try clear q16); (try clear q167); (try clear q17); (try clear q179); (try clear q18); (try clear q180); (try clear q181); (try clear q182); (try clear q183); obtain ⟨kq, x110_75, rfl, HA, HJ75, HO_1, HO_53, HO_59, HO_77, BK163, HB⟩ := hcut
                           cases kq with
                           | zero => exact absurd HA.out (by simp [impl_Table_smallest.j7])
                           | succ kj75 =>
                            have H := HA.out
                            clear HA
                            simp only [impl_Table_smallest.j7] at H
                            by_cases c83 : x110_75 = true
                            ·subst c83
                             have H1 : ((some (([(rd y176 x55_2)] : List Int) : List Int)).bind fun y184 => ((impl_Table_smallest.f kj75 a0_0 x61_3 l1).bind fun t187 => (if (strOfNums y184).size + t187.size ≤ 9223372036854775807 then ((impl_Table_smallest.f kj75 a0_0 x79_5 l1).bind fun t188 => (if ((strOfNums y184) ++ t187).size + t188.size ≤ 9223372036854775807 then (some (((strOfNums y184) ++ t187) ++ t188)) else (none))) else (none)))) = some r := by rw [if_pos rfl] at H; exact H
                             clear H; have H := H1; clear H1
                             obtain ⟨y184, hy184⟩ : ∃ y_ : List Int, y_ = (([(rd y176 x55_2)] : List Int)) := ⟨_, rfl⟩
                             replace H : ((impl_Table_smallest.f kj75 a0_0 x61_3 l1).bind fun t187 => (if (strOfNums y184).size + t187.size ≤ 9223372036854775807 then ((impl_Table_smallest.f kj75 a0_0 x79_5 l1).bind fun t188 => (if ((strOfNums y184) ++ t187).size + t188.size ≤ 9223372036854775807 then (some (((strOfNums y184) ++ t187) ++ t188)) else (none))) else (none))) = some r := by first | (rw [hy184]; with_reducible exact H) | (have H2_ := (Option.bind_some _ _).symm.trans H; rw [hy184]; with_reducible exact H2_) | (have H2_ := (Option.bind_some _ _).symm.trans H; with_reducible exact H2_) | with_reducible exact H | (rw [hy184]; exact H) | exact H
                             have Ny184 := Aside0.mk hy184; clear hy184; replace H := Option.bind_eq_some_iff.mp H; obtain ⟨t187, A840, H⟩ := H; (try dsimp only at H); have A84 := Aside0.mk A840; clear A840
                             by_cases c85 : (strOfNums y184).size + t187.size ≤ 9223372036854775807
                             ·rw [if_pos c85] at H
                              have c85b0 := eq_true c85
                              have c85b1 : decide ((strOfNums y184).size + t187.size ≤ 9223372036854775807) = true := decide_eq_true c85
                              try have c85b2 : (9223372036854775807 < (strOfNums y184).size + t187.size) = False := eq_false (Nat.not_lt.2 c85)
                              replace H := Option.bind_eq_some_iff.mp H; obtain ⟨t188, A860, H⟩ := H; (try dsimp only at H); have A86 := Aside0.mk A860; clear A860
                              by_cases c87 : ((strOfNums y184) ++ t187).size + t188.size ≤ 9223372036854775807
                              ·rw [if_pos c87] at H
                               have c87b0 := eq_true c87
                               have c87b1 : decide (((strOfNums y184) ++ t187).size + t188.size ≤ 9223372036854775807) = true := decide_eq_true c87
                               have c87n : (strOfNums y184).size + t187.size + t188.size ≤ 9223372036854775807 := by (have h_ := c87; rw [ByteArray.size_append] at h_; exact h_)
                               have c87n1 : (9223372036854775807 < (strOfNums y184).size + t187.size + t188.size) = False := eq_false (Nat.not_lt.2 c87n)
                               try have c87b2 : (9223372036854775807 < ((strOfNums y184) ++ t187).size + t188.size) = False := eq_false (Nat.not_lt.2 c87)
                               obtain rfl := Option.some.inj H
                               try go_wp2
                               have n0_ := Aside0.mk (Kd.V_drew HO_1.out)
                               have n1_ := Aside0.mk (Kd.V_drew HO_53.out)
                               have n2_ := Aside0.mk (Kd.V_drew HO_59.out)
                               have n3_ := Aside0.mk (Kd.V_drew HO_77.out)
                               have n4_ := Aside0.mk (blk_drew BK163.out)
                               have n5_ := Aside0.mk (below_drew1 HB.out)
                               clear HO_1; clear HO_53; clear HO_59; clear HO_77; clear BK163; clear HB; have HO_1 := n0_; have HO_53 := n1_; have HO_59 := n2_; have HO_77 := n3_; have BK163 := n4_; have HB := n5_; clear n0_ n1_ n2_ n3_ n4_ n5_
                               refine start_ (n := 18) (S := fun w' => w'.cell? ⟨gb163, 0, none⟩ = some (.int .i64 a0_0) ∧ w'.cell? ⟨gb163, 1, none⟩ = some (.int .i64 a0_1)) (ds := []) #[false, false, false, false, false, false, false, false, false, false, false, false, false, false, false, false, false, false] (by kernel_rfl) rfl rfl ⟨(blk_cell BK163.out 0).trans rfl, (blk_cell BK163.out 1).trans rfl⟩ (fun hHeld => ?_); refine with_tabW impl_Table_smallest.tab29 impl_Table_smallest.bits29 (fun HT_ HW_ => ?_)
                               generalize wc.drew = w88 at HO_1 HO_53 HO_59 HO_77 BK163 HB hHeld ⊢
                               refine pure_ (i := 0) (N := some 111) (v := ?_) (a' := ?_) #[true, false, false, false, false, false, false, false, false, false, false, false, false, false, false, false, false, false] rfl rfl (any_of HT_.out (by kernel_rfl)) (fun _ _ _ h => h) (Or.inl ⟨by rfl, ?_⟩) ?_ ?_; rotate_left
                               ·intro w'; go_simp; with_reducible rfl
                               rotate_left
                               ·simp only [Act.put, List.setIfInBounds_toArray, List.set_cons_zero, List.set_cons_succ, i64_w, i32_w]; rfl
                               refine pure_ (i := 3) (N := some 114) (v := ?_) (a' := ?_) #[true, false, false, true, false, false, false, false, false, false, false, false, false, false, false, false, false, false] rfl rfl (any_of HT_.out (by kernel_rfl)) (fun _ _ _ h => h) (Or.inl ⟨by rfl, ?_⟩) ?_ ?_; rotate_left
                               ·intro w'; go_simp; with_reducible rfl
                               rotate_left
                               ·simp only [Act.put, List.setIfInBounds_toArray, List.set_cons_zero, List.set_cons_succ, i64_w, i32_w]; rfl
                               refine pure_ (i := 5) (N := some 116) (v := ?_) (a' := ?_) #[true, false, false, true, false, true, false, false, false, false, false, false, false, false, false, false, false, false] rfl rfl (any_of HT_.out (by kernel_rfl)) (fun _ _ _ h => h) (Or.inl ⟨by rfl, ?_⟩) ?_ ?_; rotate_left
                               ·intro w'; go_simp; with_reducible rfl
                               rotate_left
                               ·simp only [Act.put, List.setIfInBounds_toArray, List.set_cons_zero, List.set_cons_succ, i64_w, i32_w]; rfl
                               refine pure_ (i := 7) (N := some 118) (v := ?_) (a' := ?_) #[true, false, false, true, false, true, false, true, false, false, false, false, false, false, false, false, false, false] rfl rfl (any_of HT_.out (by kernel_rfl)) (fun _ _ _ h => h) (Or.inl ⟨by rfl, ?_⟩) ?_ ?_; rotate_left
                               ·intro w'; go_simp; with_reducible rfl
                               rotate_left
                               ·simp only [Act.put, List.setIfInBounds_toArray, List.set_cons_zero, List.set_cons_succ, i64_w, i32_w]; rfl
                               refine pure_ (i := 10) (N := some 121) (v := ?_) (a' := ?_) #[true, false, false, true, false, true, false, true, false, false, true, false, false, false, false, false, false, false] rfl rfl (any_of HT_.out (by kernel_rfl)) (fun _ _ _ h => h) (Or.inl ⟨by rfl, ?_⟩) ?_ ?_; rotate_left
                               ·intro w'; go_simp; with_reducible rfl
                               rotate_left
                               ·simp only [Act.put, List.setIfInBounds_toArray, List.set_cons_zero, List.set_cons_succ, i64_w, i32_w]; rfl
                               refine pure_ (i := 12) (N := some 123) (v := ?_) (a' := ?_) #[true, false, false, true, false, true, false, true, false, false, true, false, true, false, false, false, false, false] rfl rfl (any_of HT_.out (by kernel_rfl)) (fun _ _ _ h => h) (Or.inl ⟨by rfl, ?_⟩) ?_ ?_; rotate_left
                               ·intro w'; go_simp; with_reducible rfl
                               rotate_left
                               ·simp only [Act.put, List.setIfInBounds_toArray, List.set_cons_zero, List.set_cons_succ, i64_w, i32_w]; rfl
                               refine pure_ (i := 14) (N := some 125) (v := ?_) (a' := ?_) #[true, false, false, true, false, true, false, true, false, false, true, false, true, false, true, false, false, false] rfl rfl (any_of HT_.out (by kernel_rfl)) (fun _ _ _ h => h) (Or.inl ⟨by rfl, ?_⟩) ?_ ?_; rotate_left
                               ·intro w'; go_simp; with_reducible rfl
                               rotate_left
                               ·simp only [Act.put, List.setIfInBounds_toArray, List.set_cons_zero, List.set_cons_succ, i64_w, i32_w]; rfl
                               refine take_ (i := 4) (N := some 115) (v := ?_) (a' := ?_) #[true, false, false, true, true, true, false, true, false, false, true, false, true, false, true, false, false, false] rfl rfl (take_ofW HT_.out HW_.out (by kernel_rfl)) (fun _ _ _ h => h) (Or.inl ⟨by rfl, ?_⟩) hHeld ?_ ?_
                               rotate_left
                               ·rintro w' ⟨s0, s1⟩
                                go_simp; with_reducible rfl
                               rotate_left
                               ·simp only [Act.put, List.setIfInBounds_toArray, List.set_cons_zero, List.set_cons_succ, i64_w, i32_w]; rfl
                               refine pure_ (i := 6) (N := some 117) (v := ?_) (a' := ?_) #[true, false, false, true, true, true, true, true, false, false, true, false, true, false, true, false, false, false] rfl rfl (any_of HT_.out (by kernel_rfl)) (fun _ _ _ h => h) (Or.inl ⟨by rfl, ?_⟩) ?_ ?_; rotate_left
                               ·intro w'; go_simp; with_reducible rfl
                               rotate_left
                               ·simp only [Act.put, List.setIfInBounds_toArray, List.set_cons_zero, List.set_cons_succ, i64_w, i32_w]; rfl
                               refine take_ (i := 11) (N := some 122) (v := ?_) (a' := ?_) #[true, false, false, true, true, true, true, true, false, false, true, true, true, false, true, false, false, false] rfl rfl (take_ofW HT_.out HW_.out (by kernel_rfl)) (fun _ _ _ h => h) (Or.inl ⟨by rfl, ?_⟩) hHeld ?_ ?_
                               rotate_left
                               ·rintro w' ⟨s0, s1⟩
                                go_simp; with_reducible rfl
                               rotate_left
                               ·simp only [Act.put, List.setIfInBounds_toArray, List.set_cons_zero, List.set_cons_succ, i64_w, i32_w]; rfl
                               refine pure_ (i := 13) (N := some 124) (v := ?_) (a' := ?_) #[true, false, false, true, true, true, true, true, false, false, true, true, true, true, true, false, false, false] rfl rfl (any_of HT_.out (by kernel_rfl)) (fun _ _ _ h => h) (Or.inl ⟨by rfl, ?_⟩) ?_ ?_; rotate_left
                               ·intro w'; go_simp; with_reducible rfl
                               rotate_left
                               ·simp only [Act.put, List.setIfInBounds_toArray, List.set_cons_zero, List.set_cons_succ, i64_w, i32_w]; rfl
                               refine join_ (σ := Value) 2 #[true, true, true, true, true, true, true, true, true, true, true, true, true, true, true, true, false, false] (fun s_ => [(112, s_), (113, .string (strOfNums y184)), (119, .string t187), (126, .string t188), (120, .string ((strOfNums y184) ++ t187))]) (fun s_ w' => (w'.cell? ⟨gb163, 0, none⟩ = some (.int .i64 a0_0) ∧ w'.cell? ⟨gb163, 1, none⟩ = some (.int .i64 a0_1)) ∧ (Kd.R (Kd.int .u8) 5 w' w.heap.size (fun k_ => (w.heap.size ≤ k_) ∧ some k_ ≠ (.slice (some ad179) y176.length co58 : Value).ownBlock) s_ y184) ∧ (Kd.V (Kd.int .i64) 3 w' w.heap.size (fun k_ => (P1_ k_ ∨ w.heap.size ≤ k_) ∧ some k_ ≠ (s_ : Value).ownBlock ∧ some k_ ≠ (.slice (some ad179) y176.length co58 : Value).ownBlock ∧ k_ ≠ gb163) (.slice (some ad167) l1.length c1) l1) ∧ (Kd.V (Kd.int .u8) 5 w' w.heap.size (fun k_ => (w.heap.size ≤ k_) ∧ some k_ ≠ (s_ : Value).ownBlock) (.slice (some ad179) y176.length co58) y176) ∧ (Kd.V (Kd.int .i64) 3 w' w.heap.size (fun k_ => (P1_ k_ ∨ w.heap.size ≤ k_) ∧ some k_ ≠ (s_ : Value).ownBlock ∧ some k_ ≠ (.slice (some ad179) y176.length co58 : Value).ownBlock ∧ k_ ≠ gb163) (.slice (some ad167) l1.length c1) l1) ∧ (Kd.V (Kd.int .i64) 3 w' w.heap.size (fun k_ => (P1_ k_ ∨ w.heap.size ≤ k_) ∧ some k_ ≠ (s_ : Value).ownBlock ∧ some k_ ≠ (.slice (some ad179) y176.length co58 : Value).ownBlock ∧ k_ ≠ gb163) (.slice (some ad167) l1.length c1) l1) ∧ (w'.heap[gb163]? = some (.cells #[.int .i64 a0_0, .int .i64 a0_1] 26 (0, 0))) ∧ (Below w.heap.size w w')) ?_ ?_
                               rotate_left
                               ·intro hJ1_2_8_15
                                refine join_ (σ := Value) 3 #[true, true, true, true, true, true, true, true, true, true, true, true, true, true, true, false, false, false] (fun s_ => [(112, s_), (113, .string (strOfNums y184)), (119, .string t187), (120, .string ((strOfNums y184) ++ t187))]) (fun s_ w' => (w'.cell? ⟨gb163, 0, none⟩ = some (.int .i64 a0_0) ∧ w'.cell? ⟨gb163, 1, none⟩ = some (.int .i64 a0_1)) ∧ (Kd.R (Kd.int .u8) 5 w' w.heap.size (fun k_ => (w.heap.size ≤ k_) ∧ some k_ ≠ (.slice (some ad179) y176.length co58 : Value).ownBlock) s_ y184) ∧ (Kd.V (Kd.int .i64) 3 w' w.heap.size (fun k_ => (P1_ k_ ∨ w.heap.size ≤ k_) ∧ some k_ ≠ (s_ : Value).ownBlock ∧ some k_ ≠ (.slice (some ad179) y176.length co58 : Value).ownBlock ∧ k_ ≠ gb163) (.slice (some ad167) l1.length c1) l1) ∧ (Kd.V (Kd.int .u8) 5 w' w.heap.size (fun k_ => (w.heap.size ≤ k_) ∧ some k_ ≠ (s_ : Value).ownBlock) (.slice (some ad179) y176.length co58) y176) ∧ (Kd.V (Kd.int .i64) 3 w' w.heap.size (fun k_ => (P1_ k_ ∨ w.heap.size ≤ k_) ∧ some k_ ≠ (s_ : Value).ownBlock ∧ some k_ ≠ (.slice (some ad179) y176.length co58 : Value).ownBlock ∧ k_ ≠ gb163) (.slice (some ad167) l1.length c1) l1) ∧ (Kd.V (Kd.int .i64) 3 w' w.heap.size (fun k_ => (P1_ k_ ∨ w.heap.size ≤ k_) ∧ some k_ ≠ (s_ : Value).ownBlock ∧ some k_ ≠ (.slice (some ad179) y176.length co58 : Value).ownBlock ∧ k_ ≠ gb163) (.slice (some ad167) l1.length c1) l1) ∧ (w'.heap[gb163]? = some (.cells #[.int .i64 a0_0, .int .i64 a0_1] 26 (0, 0))) ∧ (Below w.heap.size w w')) ?_ ?_
                                rotate_left
                                ·intro hJ1_2_8
                                 refine join_ (σ := Value) 4 #[true, true, false, true, true, true, true, true, true, false, true, true, true, true, true, true, false, false] (fun s_ => [(112, s_), (119, .string t187), (126, .string t188)]) (fun s_ w' => (w'.cell? ⟨gb163, 0, none⟩ = some (.int .i64 a0_0) ∧ w'.cell? ⟨gb163, 1, none⟩ = some (.int .i64 a0_1)) ∧ (Kd.R (Kd.int .u8) 5 w' w.heap.size (fun k_ => (w.heap.size ≤ k_) ∧ some k_ ≠ (.slice (some ad179) y176.length co58 : Value).ownBlock) s_ y184) ∧ (Kd.V (Kd.int .i64) 3 w' w.heap.size (fun k_ => (P1_ k_ ∨ w.heap.size ≤ k_) ∧ some k_ ≠ (s_ : Value).ownBlock ∧ some k_ ≠ (.slice (some ad179) y176.length co58 : Value).ownBlock ∧ k_ ≠ gb163) (.slice (some ad167) l1.length c1) l1) ∧ (Kd.V (Kd.int .u8) 5 w' w.heap.size (fun k_ => (w.heap.size ≤ k_) ∧ some k_ ≠ (s_ : Value).ownBlock) (.slice (some ad179) y176.length co58) y176) ∧ (Kd.V (Kd.int .i64) 3 w' w.heap.size (fun k_ => (P1_ k_ ∨ w.heap.size ≤ k_) ∧ some k_ ≠ (s_ : Value).ownBlock ∧ some k_ ≠ (.slice (some ad179) y176.length co58 : Value).ownBlock ∧ k_ ≠ gb163) (.slice (some ad167) l1.length c1) l1) ∧ (Kd.V (Kd.int .i64) 3 w' w.heap.size (fun k_ => (P1_ k_ ∨ w.heap.size ≤ k_) ∧ some k_ ≠ (s_ : Value).ownBlock ∧ some k_ ≠ (.slice (some ad179) y176.length co58 : Value).ownBlock ∧ k_ ≠ gb163) (.slice (some ad167) l1.length c1) l1) ∧ (w'.heap[gb163]? = some (.cells #[.int .i64 a0_0, .int .i64 a0_1] 26 (0, 0))) ∧ (Below w.heap.size w w')) ?_ ?_
                                 rotate_left
                                 ·intro hJ1_8_15
                                  refine join_ (σ := Value) 5 #[true, true, true, true, true, true, true, true, false, false, true, true, true, true, true, false, false, false] (fun s_ => [(112, s_), (113, .string (strOfNums y184))]) (fun s_ w' => (w'.cell? ⟨gb163, 0, none⟩ = some (.int .i64 a0_0) ∧ w'.cell? ⟨gb163, 1, none⟩ = some (.int .i64 a0_1)) ∧ (Kd.R (Kd.int .u8) 5 w' w.heap.size (fun k_ => (w.heap.size ≤ k_) ∧ some k_ ≠ (.slice (some ad179) y176.length co58 : Value).ownBlock) s_ y184) ∧ (Kd.V (Kd.int .i64) 3 w' w.heap.size (fun k_ => (P1_ k_ ∨ w.heap.size ≤ k_) ∧ some k_ ≠ (s_ : Value).ownBlock ∧ some k_ ≠ (.slice (some ad179) y176.length co58 : Value).ownBlock ∧ k_ ≠ gb163) (.slice (some ad167) l1.length c1) l1) ∧ (Kd.V (Kd.int .u8) 5 w' w.heap.size (fun k_ => (w.heap.size ≤ k_) ∧ some k_ ≠ (s_ : Value).ownBlock) (.slice (some ad179) y176.length co58) y176) ∧ (Kd.V (Kd.int .i64) 3 w' w.heap.size (fun k_ => (P1_ k_ ∨ w.heap.size ≤ k_) ∧ some k_ ≠ (s_ : Value).ownBlock ∧ some k_ ≠ (.slice (some ad179) y176.length co58 : Value).ownBlock ∧ k_ ≠ gb163) (.slice (some ad167) l1.length c1) l1) ∧ (Kd.V (Kd.int .i64) 3 w' w.heap.size (fun k_ => (P1_ k_ ∨ w.heap.size ≤ k_) ∧ some k_ ≠ (s_ : Value).ownBlock ∧ some k_ ≠ (.slice (some ad179) y176.length co58 : Value).ownBlock ∧ k_ ≠ gb163) (.slice (some ad167) l1.length c1) l1) ∧ (w'.heap[gb163]? = some (.cells #[.int .i64 a0_0, .int .i64 a0_1] 26 (0, 0))) ∧ (Below w.heap.size w w')) ?_ ?_
                                  rotate_left
                                  ·intro hJ1_2
                                   refine join_ (σ := Value) 5 #[true, true, false, true, true, true, true, true, true, false, true, true, true, true, true, false, false, false] (fun s_ => [(112, s_), (119, .string t187)]) (fun s_ w' => (w'.cell? ⟨gb163, 0, none⟩ = some (.int .i64 a0_0) ∧ w'.cell? ⟨gb163, 1, none⟩ = some (.int .i64 a0_1)) ∧ (Kd.R (Kd.int .u8) 5 w' w.heap.size (fun k_ => (w.heap.size ≤ k_) ∧ some k_ ≠ (.slice (some ad179) y176.length co58 : Value).ownBlock) s_ y184) ∧ (Kd.V (Kd.int .i64) 3 w' w.heap.size (fun k_ => (P1_ k_ ∨ w.heap.size ≤ k_) ∧ some k_ ≠ (s_ : Value).ownBlock ∧ some k_ ≠ (.slice (some ad179) y176.length co58 : Value).ownBlock ∧ k_ ≠ gb163) (.slice (some ad167) l1.length c1) l1) ∧ (Kd.V (Kd.int .u8) 5 w' w.heap.size (fun k_ => (w.heap.size ≤ k_) ∧ some k_ ≠ (s_ : Value).ownBlock) (.slice (some ad179) y176.length co58) y176) ∧ (Kd.V (Kd.int .i64) 3 w' w.heap.size (fun k_ => (P1_ k_ ∨ w.heap.size ≤ k_) ∧ some k_ ≠ (s_ : Value).ownBlock ∧ some k_ ≠ (.slice (some ad179) y176.length co58 : Value).ownBlock ∧ k_ ≠ gb163) (.slice (some ad167) l1.length c1) l1) ∧ (Kd.V (Kd.int .i64) 3 w' w.heap.size (fun k_ => (P1_ k_ ∨ w.heap.size ≤ k_) ∧ some k_ ≠ (s_ : Value).ownBlock ∧ some k_ ≠ (.slice (some ad179) y176.length co58 : Value).ownBlock ∧ k_ ≠ gb163) (.slice (some ad167) l1.length c1) l1) ∧ (w'.heap[gb163]? = some (.cells #[.int .i64 a0_0, .int .i64 a0_1] 26 (0, 0))) ∧ (Below w.heap.size w w')) ?_ ?_
                                   rotate_left
                                   ·intro hJ1_8
                                    refine join_ (σ := Unit) 5 #[true, false, false, true, true, true, true, true, true, false, true, true, true, true, true, true, false, false] (fun s_ => [(119, .string t187), (126, .string t188)]) (fun s_ w' => (w'.cell? ⟨gb163, 0, none⟩ = some (.int .i64 a0_0) ∧ w'.cell? ⟨gb163, 1, none⟩ = some (.int .i64 a0_1)) ∧ (Kd.V (Kd.int .i64) 3 w' w.heap.size (fun k_ => (P1_ k_ ∨ w.heap.size ≤ k_) ∧ some k_ ≠ (.slice (some ad179) y176.length co58 : Value).ownBlock ∧ k_ ≠ gb163) (.slice (some ad167) l1.length c1) l1) ∧ (Kd.V (Kd.int .u8) 5 w' w.heap.size (fun k_ => (w.heap.size ≤ k_)) (.slice (some ad179) y176.length co58) y176) ∧ (Kd.V (Kd.int .i64) 3 w' w.heap.size (fun k_ => (P1_ k_ ∨ w.heap.size ≤ k_) ∧ some k_ ≠ (.slice (some ad179) y176.length co58 : Value).ownBlock ∧ k_ ≠ gb163) (.slice (some ad167) l1.length c1) l1) ∧ (Kd.V (Kd.int .i64) 3 w' w.heap.size (fun k_ => (P1_ k_ ∨ w.heap.size ≤ k_) ∧ some k_ ≠ (.slice (some ad179) y176.length co58 : Value).ownBlock ∧ k_ ≠ gb163) (.slice (some ad167) l1.length c1) l1) ∧ (w'.heap[gb163]? = some (.cells #[.int .i64 a0_0, .int .i64 a0_1] 26 (0, 0))) ∧ (Below w.heap.size w w')) ?_ ?_
                                    rotate_left
                                    ·intro hJ8_15
                                     refine join_ (σ := Value) 6 #[true, true, false, true, true, true, true, true, false, false, true, true, true, true, true, false, false, false] (fun s_ => [(112, s_)]) (fun s_ w' => (w'.cell? ⟨gb163, 0, none⟩ = some (.int .i64 a0_0) ∧ w'.cell? ⟨gb163, 1, none⟩ = some (.int .i64 a0_1)) ∧ (Kd.R (Kd.int .u8) 5 w' w.heap.size (fun k_ => (w.heap.size ≤ k_) ∧ some k_ ≠ (.slice (some ad179) y176.length co58 : Value).ownBlock) s_ y184) ∧ (Kd.V (Kd.int .i64) 3 w' w.heap.size (fun k_ => (P1_ k_ ∨ w.heap.size ≤ k_) ∧ some k_ ≠ (s_ : Value).ownBlock ∧ some k_ ≠ (.slice (some ad179) y176.length co58 : Value).ownBlock ∧ k_ ≠ gb163) (.slice (some ad167) l1.length c1) l1) ∧ (Kd.V (Kd.int .u8) 5 w' w.heap.size (fun k_ => (w.heap.size ≤ k_) ∧ some k_ ≠ (s_ : Value).ownBlock) (.slice (some ad179) y176.length co58) y176) ∧ (Kd.V (Kd.int .i64) 3 w' w.heap.size (fun k_ => (P1_ k_ ∨ w.heap.size ≤ k_) ∧ some k_ ≠ (s_ : Value).ownBlock ∧ some k_ ≠ (.slice (some ad179) y176.length co58 : Value).ownBlock ∧ k_ ≠ gb163) (.slice (some ad167) l1.length c1) l1) ∧ (Kd.V (Kd.int .i64) 3 w' w.heap.size (fun k_ => (P1_ k_ ∨ w.heap.size ≤ k_) ∧ some k_ ≠ (s_ : Value).ownBlock ∧ some k_ ≠ (.slice (some ad179) y176.length co58 : Value).ownBlock ∧ k_ ≠ gb163) (.slice (some ad167) l1.length c1) l1) ∧ (w'.heap[gb163]? = some (.cells #[.int .i64 a0_0, .int .i64 a0_1] 26 (0, 0))) ∧ (Below w.heap.size w w')) ?_ ?_
                                     rotate_left
                                     ·intro hJ1
                                      refine join_ (σ := Unit) 6 #[true, false, false, true, true, true, true, true, true, false, true, true, true, true, true, false, false, false] (fun s_ => [(119, .string t187)]) (fun s_ w' => (w'.cell? ⟨gb163, 0, none⟩ = some (.int .i64 a0_0) ∧ w'.cell? ⟨gb163, 1, none⟩ = some (.int .i64 a0_1)) ∧ (Kd.V (Kd.int .i64) 3 w' w.heap.size (fun k_ => (P1_ k_ ∨ w.heap.size ≤ k_) ∧ some k_ ≠ (.slice (some ad179) y176.length co58 : Value).ownBlock ∧ k_ ≠ gb163) (.slice (some ad167) l1.length c1) l1) ∧ (Kd.V (Kd.int .u8) 5 w' w.heap.size (fun k_ => (w.heap.size ≤ k_)) (.slice (some ad179) y176.length co58) y176) ∧ (Kd.V (Kd.int .i64) 3 w' w.heap.size (fun k_ => (P1_ k_ ∨ w.heap.size ≤ k_) ∧ some k_ ≠ (.slice (some ad179) y176.length co58 : Value).ownBlock ∧ k_ ≠ gb163) (.slice (some ad167) l1.length c1) l1) ∧ (Kd.V (Kd.int .i64) 3 w' w.heap.size (fun k_ => (P1_ k_ ∨ w.heap.size ≤ k_) ∧ some k_ ≠ (.slice (some ad179) y176.length co58 : Value).ownBlock ∧ k_ ≠ gb163) (.slice (some ad167) l1.length c1) l1) ∧ (w'.heap[gb163]? = some (.cells #[.int .i64 a0_0, .int .i64 a0_1] 26 (0, 0))) ∧ (Below w.heap.size w w')) ?_ ?_
                                      rotate_left
                                      ·intro hJ8
                                       refine two_ (i := 1) (j := 8) (Ni := some 112) (Nj := some 119) #[true, true, false, true, true, true, true, true, false, false, true, true, true, true, true, false, false, false] #[true, false, false, true, true, true, true, true, true, false, true, true, true, true, true, false, false, false] rfl rfl rfl rfl (two_of HT_.out (by kernel_rfl)) (by decide) (by decide) (fun K hK => ?_) (fun K hK => ?_)
                                       ·skip
                                        refine Kd.R_lit_step (Kd.int .u8) _ 5 ?hg (N := 112) ?hd (xs := ([(rd y176 x55_2)] : List Int)) (inner := [.int .u8 (rd y176 x55_2)]) (ok := fun _ => True) (okp := fun _ => True) ?hr ?hp (fun _ hk => hk) trivial (Below.refl _ _) (Nat.le_refl _) (by simp) ?_; (case hd => rfl); (case hg => rfl); (case hr => first | (go_simp; done) | (go_simp; rfl)); (case hp => exact (Reps.one (show Kd.M (Kd.int .u8) _ _ _ (rd y176 x55_2) [.int .u8 (rd y176 x55_2)] from rfl) (Reps.none _ _)))
                                        intro v185 w89 ho90 hb hg_ hnew_; clear hg_ hnew_
                                        (first | rw [← Ny184.out] at ho90 | (simp only [Int.reduceToNat] at ho90; rw [← Ny184.out] at ho90))
                                        have n0_ := Aside0.mk (Kd.V_elder' (by (with_reducible repeat (first | apply Kd.V_alloc | apply Kd.V_drewN | apply Kd.V_drew)); exact HO_1.out) (Kd.R_base ho90) hb)
                                        have n1_ := Aside0.mk (Kd.V_elder' (by (with_reducible repeat (first | apply Kd.V_alloc | apply Kd.V_drewN | apply Kd.V_drew)); exact HO_53.out) (Kd.R_base ho90) hb)
                                        have n2_ := Aside0.mk (Kd.V_elder' (by (with_reducible repeat (first | apply Kd.V_alloc | apply Kd.V_drewN | apply Kd.V_drew)); exact HO_59.out) (Kd.R_base ho90) hb)
                                        have n3_ := Aside0.mk (Kd.V_elder' (by (with_reducible repeat (first | apply Kd.V_alloc | apply Kd.V_drewN | apply Kd.V_drew)); exact HO_77.out) (Kd.R_base ho90) hb)
                                        have n4_ := Aside0.mk (Kd.R_lower (Kd.R_new' (Kd.R_newM (M := fun k_ => (w.heap.size ≤ k_)) ho90 (below_size (by repeat (first | (with_reducible first | exact HB.out | apply below_alloc | apply pw_below_drewN | apply below_drew1 | refine below_set ?_ GE163.out) | exact HB.out))) (fun k_ h_ => h_)) (Go.Proofs.YtmdpjmcleckedaaDoor.M.V_lt (by (with_reducible repeat (first | apply Kd.V_alloc | apply Kd.V_drewN | apply Kd.V_drew)); exact HO_53.out) (by rw [Ny176.out]; decide))) (below_size (by repeat (first | (with_reducible first | exact HB.out | apply below_alloc | apply pw_below_drewN | apply below_drew1 | refine below_set ?_ GE163.out) | exact HB.out))))
                                        have n5_ := Aside0.mk (blk_below (g := gb163) (o := .cells #[.int .i64 a0_0, .int .i64 a0_1] 26 (0, 0)) (by (with_reducible repeat (first | refine blk_drewN ?_ _ | refine blk_drew ?_ | refine blk_alloc ?_ _)); exact BK163.out) hb)
                                        have n6_ := Aside0.mk (below_step (by repeat (first | (with_reducible first | exact HB.out | apply below_alloc | apply pw_below_drewN | apply below_drew1 | refine below_set ?_ GE163.out) | exact HB.out)) hb)
                                        clear HO_1; clear HO_53; clear HO_59; clear HO_77; clear BK163; clear HB; have HO_1 := n0_; have HO_53 := n1_; have HO_59 := n2_; have HO_77 := n3_; have HO186 := n4_; have BK163 := n5_; have HB := n6_; clear n0_ n1_ n2_ n3_ n4_ n5_ n6_; clear hb ho90
                                        refine hK.out _ _ ⟨(blk_cell BK163.out 0).trans rfl, (blk_cell BK163.out 1).trans rfl⟩ (fun hHeld => ?_)
                                        clear hK K
                                        refine norm_ (a' := ?_) ?_ ?_
                                        rotate_left
                                        ·show Act.put _ (some 112) _ = _
                                         simp only [Act.put, List.setIfInBounds_toArray, List.set_cons_zero, List.set_cons_succ, i64_w, i32_w]; rfl
                                        exact norm_ (by first | (simp only [putAll, Act.put, List.setIfInBounds_toArray, List.set_cons_zero, List.set_cons_succ]; done) | (simp only [putAll, Act.put, List.setIfInBounds_toArray, List.set_cons_zero, List.set_cons_succ]; rfl)) (hJ1 (v185) _ ⟨hHeld, (by (with_reducible repeat (first | apply Kd.R_alloc | apply Kd.R_drewN | apply Kd.R_drew)); exact Kd.R_mono HO186.out (fun _ hk => ⟨hk.1.1, hk.2⟩)), (by (with_reducible repeat (first | apply Kd.V_alloc | apply Kd.V_drewN | apply Kd.V_drew)); exact Kd.V_mono HO_1.out (fun _ hk => ⟨hk.1.1, ⟨hk.2, ⟨hk.1.2.1, hk.1.2.2⟩⟩⟩)), (by (with_reducible repeat (first | apply Kd.V_alloc | apply Kd.V_drewN | apply Kd.V_drew)); exact HO_53.out), (by (with_reducible repeat (first | apply Kd.V_alloc | apply Kd.V_drewN | apply Kd.V_drew)); exact Kd.V_mono HO_59.out (fun _ hk => ⟨hk.1.1, ⟨hk.2, ⟨hk.1.2.1, hk.1.2.2⟩⟩⟩)), (by (with_reducible repeat (first | apply Kd.V_alloc | apply Kd.V_drewN | apply Kd.V_drew)); exact Kd.V_mono HO_77.out (fun _ hk => ⟨hk.1.1, ⟨hk.2, ⟨hk.1.2.1, hk.1.2.2⟩⟩⟩)), (by (with_reducible repeat (first | refine blk_drewN ?_ _ | refine blk_drew ?_ | refine blk_alloc ?_ _)); exact BK163.out), (by repeat (first | (with_reducible first | exact HB.out | apply below_alloc | apply pw_below_drewN | apply below_drew1 | refine below_set ?_ GE163.out) | exact HB.out))⟩)
                                       ·skip
                                        refine goes_ Tryd.func11 (by kernel_rfl) rfl #[.agg #[.int .i64 a0_0, .int .i64 x61_3], .slice (some ad167) l1.length c1] (by rfl) rfl rfl (by first | rfl | (simp only [List.map_toArray, List.map_cons, List.map_nil, List.length_drop, List.length_take]; rfl)) ?_
                                        with_reducible refine (ih kj75 (by have := HJ13.out; have := HK2.out; have := HK3.out; have := HJ64.out; have := HK5.out; have := HJ73.out; have := HJ75.out; omega) a0_0 x61_3 (fun k_ => ((P1_ k_ ∨ w.heap.size ≤ k_) ∧ (some k_ ≠ (.slice (some ad179) y176.length co58 : Value).ownBlock ∧ k_ ≠ gb163))) _ _ l1 t187 _ ?side1 A84.out).mono ?_
                                        (case side1 => exact HO_1.out)
                                        rintro e w89 ⟨rfl, hb⟩
                                        refine ⟨_, rfl, ?_⟩
                                        have n0_ := Aside0.mk (Kd.V_below (by (with_reducible repeat (first | apply Kd.V_alloc | apply Kd.V_drewN | apply Kd.V_drew)); exact HO_1.out) hb)
                                        have n1_ := Aside0.mk (Kd.V_below (by (with_reducible repeat (first | apply Kd.V_alloc | apply Kd.V_drewN | apply Kd.V_drew)); exact HO_53.out) hb)
                                        have n2_ := Aside0.mk (Kd.V_below (by (with_reducible repeat (first | apply Kd.V_alloc | apply Kd.V_drewN | apply Kd.V_drew)); exact HO_59.out) hb)
                                        have n3_ := Aside0.mk (Kd.V_below (by (with_reducible repeat (first | apply Kd.V_alloc | apply Kd.V_drewN | apply Kd.V_drew)); exact HO_77.out) hb)
                                        have n4_ := Aside0.mk (blk_below (g := gb163) (o := .cells #[.int .i64 a0_0, .int .i64 a0_1] 26 (0, 0)) (by (with_reducible repeat (first | refine blk_drewN ?_ _ | refine blk_drew ?_ | refine blk_alloc ?_ _)); exact BK163.out) hb)
                                        have n5_ := Aside0.mk (below_step (by repeat (first | (with_reducible first | exact HB.out | apply below_alloc | apply pw_below_drewN | apply below_drew1 | refine below_set ?_ GE163.out) | exact HB.out)) hb)
                                        clear HO_1; clear HO_53; clear HO_59; clear HO_77; clear BK163; clear HB; have HO_1 := n0_; have HO_53 := n1_; have HO_59 := n2_; have HO_77 := n3_; have BK163 := n4_; have HB := n5_; clear n0_ n1_ n2_ n3_ n4_ n5_; (try clear hb); (try clear hb2); (try clear hk); (try clear hi)
                                        refine hK.out _ _ ⟨(blk_cell BK163.out 0).trans rfl, (blk_cell BK163.out 1).trans rfl⟩ (fun hHeld => ?_)
                                        clear hK K
                                        refine norm_ (a' := ?_) ?_ ?_
                                        rotate_left
                                        ·show Act.put _ (some 119) _ = _
                                         simp only [Act.put, List.setIfInBounds_toArray, List.set_cons_zero, List.set_cons_succ, i64_w, i32_w]; rfl
                                        exact norm_ (by first | (simp only [putAll, Act.put, List.setIfInBounds_toArray, List.set_cons_zero, List.set_cons_succ]; done) | (simp only [putAll, Act.put, List.setIfInBounds_toArray, List.set_cons_zero, List.set_cons_succ]; rfl)) (hJ8 () _ ⟨hHeld, (by (with_reducible repeat (first | apply Kd.V_alloc | apply Kd.V_drewN | apply Kd.V_drew)); exact HO_1.out), (by (with_reducible repeat (first | apply Kd.V_alloc | apply Kd.V_drewN | apply Kd.V_drew)); exact HO_53.out), (by (with_reducible repeat (first | apply Kd.V_alloc | apply Kd.V_drewN | apply Kd.V_drew)); exact HO_59.out), (by (with_reducible repeat (first | apply Kd.V_alloc | apply Kd.V_drewN | apply Kd.V_drew)); exact HO_77.out), (by (with_reducible repeat (first | refine blk_drewN ?_ _ | refine blk_drew ?_ | refine blk_alloc ?_ _)); exact BK163.out), (by repeat (first | (with_reducible first | exact HB.out | apply below_alloc | apply pw_below_drewN | apply below_drew1 | refine below_set ?_ GE163.out) | exact HB.out))⟩)
                                      ·skip
                                       rintro _ w90 ⟨hS_, h0_, h1_, h2_, h3_, h4_, h5_⟩
                                       have n0_ : Aside0 (Kd.V (Kd.int .i64) 3 w90 w.heap.size (fun k_ => (P1_ k_ ∨ w.heap.size ≤ k_) ∧ some k_ ≠ (.slice (some ad179) y176.length co58 : Value).ownBlock ∧ k_ ≠ gb163) (.slice (some ad167) l1.length c1) l1) := ⟨h0_⟩
                                       have n1_ : Aside0 (Kd.V (Kd.int .u8) 5 w90 w.heap.size (fun k_ => (w.heap.size ≤ k_)) (.slice (some ad179) y176.length co58) y176) := ⟨h1_⟩
                                       have n2_ : Aside0 (Kd.V (Kd.int .i64) 3 w90 w.heap.size (fun k_ => (P1_ k_ ∨ w.heap.size ≤ k_) ∧ some k_ ≠ (.slice (some ad179) y176.length co58 : Value).ownBlock ∧ k_ ≠ gb163) (.slice (some ad167) l1.length c1) l1) := ⟨h2_⟩
                                       have n3_ : Aside0 (Kd.V (Kd.int .i64) 3 w90 w.heap.size (fun k_ => (P1_ k_ ∨ w.heap.size ≤ k_) ∧ some k_ ≠ (.slice (some ad179) y176.length co58 : Value).ownBlock ∧ k_ ≠ gb163) (.slice (some ad167) l1.length c1) l1) := ⟨h3_⟩
                                       have n4_ : Aside0 (w90.heap[gb163]? = some (.cells #[.int .i64 a0_0, .int .i64 a0_1] 26 (0, 0))) := ⟨h4_⟩
                                       have n5_ : Aside0 (Below w.heap.size w w90) := ⟨h5_⟩
                                       clear HO_1; clear HO_53; clear HO_59; clear HO_77; clear BK163; clear HB; clear h0_ h1_ h2_ h3_ h4_ h5_; have HO_1 := n0_; have HO_53 := n1_; have HO_59 := n2_; have HO_77 := n3_; have BK163 := n4_; have HB := n5_; clear n0_ n1_ n2_ n3_ n4_ n5_
                                       have hHeld : w90.cell? ⟨gb163, 0, none⟩ = some (.int .i64 a0_0) ∧ w90.cell? ⟨gb163, 1, none⟩ = some (.int .i64 a0_1) := hS_
                                       refine norm_ (a' := ?_) ?_ ?_
                                       rotate_left
                                       ·simp only [putAll, Act.put, List.setIfInBounds_toArray, List.set_cons_zero, List.set_cons_succ]; rfl
                                       refine two_ (i := 1) (j := 15) (Ni := some 112) (Nj := some 126) #[true, true, false, true, true, true, true, true, true, false, true, true, true, true, true, false, false, false] #[true, false, false, true, true, true, true, true, true, false, true, true, true, true, true, true, false, false] rfl rfl rfl rfl (two_of HT_.out (by kernel_rfl)) (by decide) (by decide) (fun K hK => ?_) (fun K hK => ?_)
                                       ·skip
                                        refine Kd.R_lit_step (Kd.int .u8) _ 5 ?hg (N := 112) ?hd (xs := ([(rd y176 x55_2)] : List Int)) (inner := [.int .u8 (rd y176 x55_2)]) (ok := fun _ => True) (okp := fun _ => True) ?hr ?hp (fun _ hk => hk) trivial (Below.refl _ _) (Nat.le_refl _) (by simp) ?_; (case hd => rfl); (case hg => rfl); (case hr => first | (go_simp; done) | (go_simp; rfl)); (case hp => exact (Reps.one (show Kd.M (Kd.int .u8) _ _ _ (rd y176 x55_2) [.int .u8 (rd y176 x55_2)] from rfl) (Reps.none _ _)))
                                        intro v185 w91 ho92 hb hg_ hnew_; clear hg_ hnew_
                                        (first | rw [← Ny184.out] at ho92 | (simp only [Int.reduceToNat] at ho92; rw [← Ny184.out] at ho92))
                                        have n0_ := Aside0.mk (Kd.V_elder' (by (with_reducible repeat (first | apply Kd.V_alloc | apply Kd.V_drewN | apply Kd.V_drew)); exact HO_1.out) (Kd.R_base ho92) hb)
                                        have n1_ := Aside0.mk (Kd.V_elder' (by (with_reducible repeat (first | apply Kd.V_alloc | apply Kd.V_drewN | apply Kd.V_drew)); exact HO_53.out) (Kd.R_base ho92) hb)
                                        have n2_ := Aside0.mk (Kd.V_elder' (by (with_reducible repeat (first | apply Kd.V_alloc | apply Kd.V_drewN | apply Kd.V_drew)); exact HO_59.out) (Kd.R_base ho92) hb)
                                        have n3_ := Aside0.mk (Kd.V_elder' (by (with_reducible repeat (first | apply Kd.V_alloc | apply Kd.V_drewN | apply Kd.V_drew)); exact HO_77.out) (Kd.R_base ho92) hb)
                                        have n4_ := Aside0.mk (Kd.R_lower (Kd.R_new' (Kd.R_newM (M := fun k_ => (w.heap.size ≤ k_)) ho92 (below_size (by repeat (first | (with_reducible first | exact HB.out | apply below_alloc | apply pw_below_drewN | apply below_drew1 | refine below_set ?_ GE163.out) | exact HB.out))) (fun k_ h_ => h_)) (Go.Proofs.YtmdpjmcleckedaaDoor.M.V_lt (by (with_reducible repeat (first | apply Kd.V_alloc | apply Kd.V_drewN | apply Kd.V_drew)); exact HO_53.out) (by rw [Ny176.out]; decide))) (below_size (by repeat (first | (with_reducible first | exact HB.out | apply below_alloc | apply pw_below_drewN | apply below_drew1 | refine below_set ?_ GE163.out) | exact HB.out))))
                                        have n5_ := Aside0.mk (blk_below (g := gb163) (o := .cells #[.int .i64 a0_0, .int .i64 a0_1] 26 (0, 0)) (by (with_reducible repeat (first | refine blk_drewN ?_ _ | refine blk_drew ?_ | refine blk_alloc ?_ _)); exact BK163.out) hb)
                                        have n6_ := Aside0.mk (below_step (by repeat (first | (with_reducible first | exact HB.out | apply below_alloc | apply pw_below_drewN | apply below_drew1 | refine below_set ?_ GE163.out) | exact HB.out)) hb)
                                        clear HO_1; clear HO_53; clear HO_59; clear HO_77; clear BK163; clear HB; have HO_1 := n0_; have HO_53 := n1_; have HO_59 := n2_; have HO_77 := n3_; have HO186 := n4_; have BK163 := n5_; have HB := n6_; clear n0_ n1_ n2_ n3_ n4_ n5_ n6_; clear hb ho92
                                        refine hK.out _ _ ⟨(blk_cell BK163.out 0).trans rfl, (blk_cell BK163.out 1).trans rfl⟩ (fun hHeld => ?_)
                                        clear hK K
                                        refine norm_ (a' := ?_) ?_ ?_
                                        rotate_left
                                        ·show Act.put _ (some 112) _ = _
                                         simp only [Act.put, List.setIfInBounds_toArray, List.set_cons_zero, List.set_cons_succ, i64_w, i32_w]; rfl
                                        exact norm_ (by first | (simp only [putAll, Act.put, List.setIfInBounds_toArray, List.set_cons_zero, List.set_cons_succ]; done) | (simp only [putAll, Act.put, List.setIfInBounds_toArray, List.set_cons_zero, List.set_cons_succ]; rfl)) (hJ1_8 (v185) _ ⟨hHeld, (by (with_reducible repeat (first | apply Kd.R_alloc | apply Kd.R_drewN | apply Kd.R_drew)); exact Kd.R_mono HO186.out (fun _ hk => ⟨hk.1.1, hk.2⟩)), (by (with_reducible repeat (first | apply Kd.V_alloc | apply Kd.V_drewN | apply Kd.V_drew)); exact Kd.V_mono HO_1.out (fun _ hk => ⟨hk.1.1, ⟨hk.2, ⟨hk.1.2.1, hk.1.2.2⟩⟩⟩)), (by (with_reducible repeat (first | apply Kd.V_alloc | apply Kd.V_drewN | apply Kd.V_drew)); exact HO_53.out), (by (with_reducible repeat (first | apply Kd.V_alloc | apply Kd.V_drewN | apply Kd.V_drew)); exact Kd.V_mono HO_59.out (fun _ hk => ⟨hk.1.1, ⟨hk.2, ⟨hk.1.2.1, hk.1.2.2⟩⟩⟩)), (by (with_reducible repeat (first | apply Kd.V_alloc | apply Kd.V_drewN | apply Kd.V_drew)); exact Kd.V_mono HO_77.out (fun _ hk => ⟨hk.1.1, ⟨hk.2, ⟨hk.1.2.1, hk.1.2.2⟩⟩⟩)), (by (with_reducible repeat (first | refine blk_drewN ?_ _ | refine blk_drew ?_ | refine blk_alloc ?_ _)); exact BK163.out), (by repeat (first | (with_reducible first | exact HB.out | apply below_alloc | apply pw_below_drewN | apply below_drew1 | refine below_set ?_ GE163.out) | exact HB.out))⟩)
                                       ·skip
                                        refine goes_ Tryd.func11 (by kernel_rfl) rfl #[.agg #[.int .i64 a0_0, .int .i64 x79_5], .slice (some ad167) l1.length c1] (by rfl) rfl rfl (by first | rfl | (simp only [List.map_toArray, List.map_cons, List.map_nil, List.length_drop, List.length_take]; rfl)) ?_
                                        with_reducible refine (ih kj75 (by have := HJ13.out; have := HK2.out; have := HK3.out; have := HJ64.out; have := HK5.out; have := HJ73.out; have := HJ75.out; omega) a0_0 x79_5 (fun k_ => ((P1_ k_ ∨ w.heap.size ≤ k_) ∧ (some k_ ≠ (.slice (some ad179) y176.length co58 : Value).ownBlock ∧ k_ ≠ gb163))) _ _ l1 t188 _ ?side1 A86.out).mono ?_
                                        (case side1 => exact HO_1.out)
                                        rintro e w91 ⟨rfl, hb⟩
                                        refine ⟨_, rfl, ?_⟩
                                        have n0_ := Aside0.mk (Kd.V_below (by (with_reducible repeat (first | apply Kd.V_alloc | apply Kd.V_drewN | apply Kd.V_drew)); exact HO_1.out) hb)
                                        have n1_ := Aside0.mk (Kd.V_below (by (with_reducible repeat (first | apply Kd.V_alloc | apply Kd.V_drewN | apply Kd.V_drew)); exact HO_53.out) hb)
                                        have n2_ := Aside0.mk (Kd.V_below (by (with_reducible repeat (first | apply Kd.V_alloc | apply Kd.V_drewN | apply Kd.V_drew)); exact HO_59.out) hb)
                                        have n3_ := Aside0.mk (Kd.V_below (by (with_reducible repeat (first | apply Kd.V_alloc | apply Kd.V_drewN | apply Kd.V_drew)); exact HO_77.out) hb)
                                        have n4_ := Aside0.mk (blk_below (g := gb163) (o := .cells #[.int .i64 a0_0, .int .i64 a0_1] 26 (0, 0)) (by (with_reducible repeat (first | refine blk_drewN ?_ _ | refine blk_drew ?_ | refine blk_alloc ?_ _)); exact BK163.out) hb)
                                        have n5_ := Aside0.mk (below_step (by repeat (first | (with_reducible first | exact HB.out | apply below_alloc | apply pw_below_drewN | apply below_drew1 | refine below_set ?_ GE163.out) | exact HB.out)) hb)
                                        clear HO_1; clear HO_53; clear HO_59; clear HO_77; clear BK163; clear HB; have HO_1 := n0_; have HO_53 := n1_; have HO_59 := n2_; have HO_77 := n3_; have BK163 := n4_; have HB := n5_; clear n0_ n1_ n2_ n3_ n4_ n5_; (try clear hb); (try clear hb2); (try clear hk); (try clear hi)
                                        refine hK.out _ _ ⟨(blk_cell BK163.out 0).trans rfl, (blk_cell BK163.out 1).trans rfl⟩ (fun hHeld => ?_)
                                        clear hK K
                                        refine norm_ (a' := ?_) ?_ ?_
                                        rotate_left
                                        ·show Act.put _ (some 126) _ = _
                                         simp only [Act.put, List.setIfInBounds_toArray, List.set_cons_zero, List.set_cons_succ, i64_w, i32_w]; rfl
                                        exact norm_ (by first | (simp only [putAll, Act.put, List.setIfInBounds_toArray, List.set_cons_zero, List.set_cons_succ]; done) | (simp only [putAll, Act.put, List.setIfInBounds_toArray, List.set_cons_zero, List.set_cons_succ]; rfl)) (hJ8_15 () _ ⟨hHeld, (by (with_reducible repeat (first | apply Kd.V_alloc | apply Kd.V_drewN | apply Kd.V_drew)); exact HO_1.out), (by (with_reducible repeat (first | apply Kd.V_alloc | apply Kd.V_drewN | apply Kd.V_drew)); exact HO_53.out), (by (with_reducible repeat (first | apply Kd.V_alloc | apply Kd.V_drewN | apply Kd.V_drew)); exact HO_59.out), (by (with_reducible repeat (first | apply Kd.V_alloc | apply Kd.V_drewN | apply Kd.V_drew)); exact HO_77.out), (by (with_reducible repeat (first | refine blk_drewN ?_ _ | refine blk_drew ?_ | refine blk_alloc ?_ _)); exact BK163.out), (by repeat (first | (with_reducible first | exact HB.out | apply below_alloc | apply pw_below_drewN | apply below_drew1 | refine below_set ?_ GE163.out) | exact HB.out))⟩)
                                     ·skip
                                      rintro v185 w91 ⟨hS_, h0_, h1_, h2_, h3_, h4_, h5_, h6_⟩
                                      have n0_ : Aside0 (Kd.R (Kd.int .u8) 5 w91 w.heap.size (fun k_ => (w.heap.size ≤ k_) ∧ some k_ ≠ (.slice (some ad179) y176.length co58 : Value).ownBlock) v185 y184) := ⟨h0_⟩
                                      have n1_ : Aside0 (Kd.V (Kd.int .i64) 3 w91 w.heap.size (fun k_ => (P1_ k_ ∨ w.heap.size ≤ k_) ∧ some k_ ≠ (v185 : Value).ownBlock ∧ some k_ ≠ (.slice (some ad179) y176.length co58 : Value).ownBlock ∧ k_ ≠ gb163) (.slice (some ad167) l1.length c1) l1) := ⟨h1_⟩
                                      have n2_ : Aside0 (Kd.V (Kd.int .u8) 5 w91 w.heap.size (fun k_ => (w.heap.size ≤ k_) ∧ some k_ ≠ (v185 : Value).ownBlock) (.slice (some ad179) y176.length co58) y176) := ⟨h2_⟩
                                      have n3_ : Aside0 (Kd.V (Kd.int .i64) 3 w91 w.heap.size (fun k_ => (P1_ k_ ∨ w.heap.size ≤ k_) ∧ some k_ ≠ (v185 : Value).ownBlock ∧ some k_ ≠ (.slice (some ad179) y176.length co58 : Value).ownBlock ∧ k_ ≠ gb163) (.slice (some ad167) l1.length c1) l1) := ⟨h3_⟩
                                      have n4_ : Aside0 (Kd.V (Kd.int .i64) 3 w91 w.heap.size (fun k_ => (P1_ k_ ∨ w.heap.size ≤ k_) ∧ some k_ ≠ (v185 : Value).ownBlock ∧ some k_ ≠ (.slice (some ad179) y176.length co58 : Value).ownBlock ∧ k_ ≠ gb163) (.slice (some ad167) l1.length c1) l1) := ⟨h4_⟩
                                      have n5_ : Aside0 (w91.heap[gb163]? = some (.cells #[.int .i64 a0_0, .int .i64 a0_1] 26 (0, 0))) := ⟨h5_⟩
                                      have n6_ : Aside0 (Below w.heap.size w w91) := ⟨h6_⟩
                                      clear HO_1; clear HO_53; clear HO_59; clear HO_77; clear BK163; clear HB; clear h0_ h1_ h2_ h3_ h4_ h5_ h6_; have HO186 := n0_; have HO_1 := n1_; have HO_53 := n2_; have HO_59 := n3_; have HO_77 := n4_; have BK163 := n5_; have HB := n6_; clear n0_ n1_ n2_ n3_ n4_ n5_ n6_
                                      have hHeld : w91.cell? ⟨gb163, 0, none⟩ = some (.int .i64 a0_0) ∧ w91.cell? ⟨gb163, 1, none⟩ = some (.int .i64 a0_1) := hS_
                                      refine norm_ (a' := ?_) ?_ ?_
                                      rotate_left
                                      ·simp only [putAll, Act.put, List.setIfInBounds_toArray, List.set_cons_zero, List.set_cons_succ]; rfl
                                      refine two_ (i := 2) (j := 8) (Ni := some 113) (Nj := some 119) #[true, true, true, true, true, true, true, true, false, false, true, true, true, true, true, false, false, false] #[true, true, false, true, true, true, true, true, true, false, true, true, true, true, true, false, false, false] rfl rfl rfl rfl (two_of HT_.out (by kernel_rfl)) (by decide) (by decide) (fun K hK => ?_) (fun K hK => ?_)
                                      ·skip
                                       have hcv92 := own_string (P := Tryd.prog) Tryd.underlying42 Tryd.underlying5 Tryd.underlying9 (Kd.own_of_R HO186.out)
                                       refine value_ (w1 := ?_) (v := ?_) (by rfl) rfl ?_ ?_
                                       rotate_left 2
                                       ·go_simp
                                        constructor
                                        ·rfl
                                        ·rfl
                                       clear hcv92
                                       refine hK.out _ _ ⟨(blk_cell BK163.out 0).trans rfl, (blk_cell BK163.out 1).trans rfl⟩ (fun hHeld => ?_)
                                       clear hK K
                                       refine norm_ (a' := ?_) ?_ ?_
                                       rotate_left
                                       ·show Act.put _ (some 113) _ = _
                                        simp only [Act.put, List.setIfInBounds_toArray, List.set_cons_zero, List.set_cons_succ, i64_w, i32_w]; rfl
                                       exact norm_ (by first | (simp only [putAll, Act.put, List.setIfInBounds_toArray, List.set_cons_zero, List.set_cons_succ]; done) | (simp only [putAll, Act.put, List.setIfInBounds_toArray, List.set_cons_zero, List.set_cons_succ]; rfl)) (hJ1_2 (v185) _ ⟨hHeld, (by (with_reducible repeat (first | apply Kd.R_alloc | apply Kd.R_drewN | apply Kd.R_drew)); exact HO186.out), (by (with_reducible repeat (first | apply Kd.V_alloc | apply Kd.V_drewN | apply Kd.V_drew)); exact HO_1.out), (by (with_reducible repeat (first | apply Kd.V_alloc | apply Kd.V_drewN | apply Kd.V_drew)); exact HO_53.out), (by (with_reducible repeat (first | apply Kd.V_alloc | apply Kd.V_drewN | apply Kd.V_drew)); exact HO_59.out), (by (with_reducible repeat (first | apply Kd.V_alloc | apply Kd.V_drewN | apply Kd.V_drew)); exact HO_77.out), (by (with_reducible repeat (first | refine blk_drewN ?_ _ | refine blk_drew ?_ | refine blk_alloc ?_ _)); exact BK163.out), (by repeat (first | (with_reducible first | exact HB.out | apply below_alloc | apply pw_below_drewN | apply below_drew1 | refine below_set ?_ GE163.out) | exact HB.out))⟩)
                                      ·skip
                                       refine goes_ Tryd.func11 (by kernel_rfl) rfl #[.agg #[.int .i64 a0_0, .int .i64 x61_3], .slice (some ad167) l1.length c1] (by rfl) rfl rfl (by first | rfl | (simp only [List.map_toArray, List.map_cons, List.map_nil, List.length_drop, List.length_take]; rfl)) ?_
                                       with_reducible refine (ih kj75 (by have := HJ13.out; have := HK2.out; have := HK3.out; have := HJ64.out; have := HK5.out; have := HJ73.out; have := HJ75.out; omega) a0_0 x61_3 (fun k_ => ((P1_ k_ ∨ w.heap.size ≤ k_) ∧ (some k_ ≠ (v185 : Value).ownBlock ∧ (some k_ ≠ (.slice (some ad179) y176.length co58 : Value).ownBlock ∧ k_ ≠ gb163)))) _ _ l1 t187 _ ?side1 A84.out).mono ?_
                                       (case side1 => exact HO_1.out)
                                       rintro e w92 ⟨rfl, hb⟩
                                       refine ⟨_, rfl, ?_⟩
                                       have n0_ := Aside0.mk (Kd.V_below (by (with_reducible repeat (first | apply Kd.V_alloc | apply Kd.V_drewN | apply Kd.V_drew)); exact HO_1.out) hb)
                                       have n1_ := Aside0.mk (Kd.V_below (by (with_reducible repeat (first | apply Kd.V_alloc | apply Kd.V_drewN | apply Kd.V_drew)); exact HO_53.out) hb)
                                       have n2_ := Aside0.mk (Kd.V_below (by (with_reducible repeat (first | apply Kd.V_alloc | apply Kd.V_drewN | apply Kd.V_drew)); exact HO_59.out) hb)
                                       have n3_ := Aside0.mk (Kd.V_below (by (with_reducible repeat (first | apply Kd.V_alloc | apply Kd.V_drewN | apply Kd.V_drew)); exact HO_77.out) hb)
                                       have n4_ := Aside0.mk (Kd.R_below (by (with_reducible repeat (first | apply Kd.R_alloc | apply Kd.R_drewN | apply Kd.R_drew)); exact HO186.out) hb)
                                       have n5_ := Aside0.mk (blk_below (g := gb163) (o := .cells #[.int .i64 a0_0, .int .i64 a0_1] 26 (0, 0)) (by (with_reducible repeat (first | refine blk_drewN ?_ _ | refine blk_drew ?_ | refine blk_alloc ?_ _)); exact BK163.out) hb)
                                       have n6_ := Aside0.mk (below_step (by repeat (first | (with_reducible first | exact HB.out | apply below_alloc | apply pw_below_drewN | apply below_drew1 | refine below_set ?_ GE163.out) | exact HB.out)) hb)
                                       clear HO_1; clear HO_53; clear HO_59; clear HO_77; clear HO186; clear BK163; clear HB; have HO_1 := n0_; have HO_53 := n1_; have HO_59 := n2_; have HO_77 := n3_; have HO186 := n4_; have BK163 := n5_; have HB := n6_; clear n0_ n1_ n2_ n3_ n4_ n5_ n6_; (try clear hb); (try clear hb2); (try clear hk); (try clear hi)
                                       refine hK.out _ _ ⟨(blk_cell BK163.out 0).trans rfl, (blk_cell BK163.out 1).trans rfl⟩ (fun hHeld => ?_)
                                       clear hK K
                                       refine norm_ (a' := ?_) ?_ ?_
                                       rotate_left
                                       ·show Act.put _ (some 119) _ = _
                                        simp only [Act.put, List.setIfInBounds_toArray, List.set_cons_zero, List.set_cons_succ, i64_w, i32_w]; rfl
                                       exact norm_ (by first | (simp only [putAll, Act.put, List.setIfInBounds_toArray, List.set_cons_zero, List.set_cons_succ]; done) | (simp only [putAll, Act.put, List.setIfInBounds_toArray, List.set_cons_zero, List.set_cons_succ]; rfl)) (hJ1_8 (v185) _ ⟨hHeld, (by (with_reducible repeat (first | apply Kd.R_alloc | apply Kd.R_drewN | apply Kd.R_drew)); exact HO186.out), (by (with_reducible repeat (first | apply Kd.V_alloc | apply Kd.V_drewN | apply Kd.V_drew)); exact HO_1.out), (by (with_reducible repeat (first | apply Kd.V_alloc | apply Kd.V_drewN | apply Kd.V_drew)); exact HO_53.out), (by (with_reducible repeat (first | apply Kd.V_alloc | apply Kd.V_drewN | apply Kd.V_drew)); exact HO_59.out), (by (with_reducible repeat (first | apply Kd.V_alloc | apply Kd.V_drewN | apply Kd.V_drew)); exact HO_77.out), (by (with_reducible repeat (first | refine blk_drewN ?_ _ | refine blk_drew ?_ | refine blk_alloc ?_ _)); exact BK163.out), (by repeat (first | (with_reducible first | exact HB.out | apply below_alloc | apply pw_below_drewN | apply below_drew1 | refine below_set ?_ GE163.out) | exact HB.out))⟩)
                                    ·skip
                                     rintro _ w91 ⟨hS_, h0_, h1_, h2_, h3_, h4_, h5_⟩
                                     have n0_ : Aside0 (Kd.V (Kd.int .i64) 3 w91 w.heap.size (fun k_ => (P1_ k_ ∨ w.heap.size ≤ k_) ∧ some k_ ≠ (.slice (some ad179) y176.length co58 : Value).ownBlock ∧ k_ ≠ gb163) (.slice (some ad167) l1.length c1) l1) := ⟨h0_⟩
                                     have n1_ : Aside0 (Kd.V (Kd.int .u8) 5 w91 w.heap.size (fun k_ => (w.heap.size ≤ k_)) (.slice (some ad179) y176.length co58) y176) := ⟨h1_⟩
                                     have n2_ : Aside0 (Kd.V (Kd.int .i64) 3 w91 w.heap.size (fun k_ => (P1_ k_ ∨ w.heap.size ≤ k_) ∧ some k_ ≠ (.slice (some ad179) y176.length co58 : Value).ownBlock ∧ k_ ≠ gb163) (.slice (some ad167) l1.length c1) l1) := ⟨h2_⟩
                                     have n3_ : Aside0 (Kd.V (Kd.int .i64) 3 w91 w.heap.size (fun k_ => (P1_ k_ ∨ w.heap.size ≤ k_) ∧ some k_ ≠ (.slice (some ad179) y176.length co58 : Value).ownBlock ∧ k_ ≠ gb163) (.slice (some ad167) l1.length c1) l1) := ⟨h3_⟩
                                     have n4_ : Aside0 (w91.heap[gb163]? = some (.cells #[.int .i64 a0_0, .int .i64 a0_1] 26 (0, 0))) := ⟨h4_⟩
                                     have n5_ : Aside0 (Below w.heap.size w w91) := ⟨h5_⟩
                                     clear HO_1; clear HO_53; clear HO_59; clear HO_77; clear BK163; clear HB; clear h0_ h1_ h2_ h3_ h4_ h5_; have HO_1 := n0_; have HO_53 := n1_; have HO_59 := n2_; have HO_77 := n3_; have BK163 := n4_; have HB := n5_; clear n0_ n1_ n2_ n3_ n4_ n5_
                                     have hHeld : w91.cell? ⟨gb163, 0, none⟩ = some (.int .i64 a0_0) ∧ w91.cell? ⟨gb163, 1, none⟩ = some (.int .i64 a0_1) := hS_
                                     refine norm_ (a' := ?_) ?_ ?_
                                     rotate_left
                                     ·simp only [putAll, Act.put, List.setIfInBounds_toArray, List.set_cons_zero, List.set_cons_succ]; rfl
                                     refine one_ (i := 1) (N := some 112) #[true, true, false, true, true, true, true, true, true, false, true, true, true, true, true, true, false, false] rfl rfl (one_of HT_.out (by kernel_rfl)) (by decide) (fun K hK => ?_)
                                     refine Kd.R_lit_step (Kd.int .u8) _ 5 ?hg (N := 112) ?hd (xs := ([(rd y176 x55_2)] : List Int)) (inner := [.int .u8 (rd y176 x55_2)]) (ok := fun _ => True) (okp := fun _ => True) ?hr ?hp (fun _ hk => hk) trivial (Below.refl _ _) (Nat.le_refl _) (by simp) ?_; (case hd => rfl); (case hg => rfl); (case hr => first | (go_simp; done) | (go_simp; rfl)); (case hp => exact (Reps.one (show Kd.M (Kd.int .u8) _ _ _ (rd y176 x55_2) [.int .u8 (rd y176 x55_2)] from rfl) (Reps.none _ _)))
                                     intro v185 w92 ho93 hb hg_ hnew_; clear hg_ hnew_
                                     (first | rw [← Ny184.out] at ho93 | (simp only [Int.reduceToNat] at ho93; rw [← Ny184.out] at ho93))
                                     have n0_ := Aside0.mk (Kd.V_elder' (by (with_reducible repeat (first | apply Kd.V_alloc | apply Kd.V_drewN | apply Kd.V_drew)); exact HO_1.out) (Kd.R_base ho93) hb)
                                     have n1_ := Aside0.mk (Kd.V_elder' (by (with_reducible repeat (first | apply Kd.V_alloc | apply Kd.V_drewN | apply Kd.V_drew)); exact HO_53.out) (Kd.R_base ho93) hb)
                                     have n2_ := Aside0.mk (Kd.V_elder' (by (with_reducible repeat (first | apply Kd.V_alloc | apply Kd.V_drewN | apply Kd.V_drew)); exact HO_59.out) (Kd.R_base ho93) hb)
                                     have n3_ := Aside0.mk (Kd.V_elder' (by (with_reducible repeat (first | apply Kd.V_alloc | apply Kd.V_drewN | apply Kd.V_drew)); exact HO_77.out) (Kd.R_base ho93) hb)
                                     have n4_ := Aside0.mk (Kd.R_lower (Kd.R_new' (Kd.R_newM (M := fun k_ => (w.heap.size ≤ k_)) ho93 (below_size (by repeat (first | (with_reducible first | exact HB.out | apply below_alloc | apply pw_below_drewN | apply below_drew1 | refine below_set ?_ GE163.out) | exact HB.out))) (fun k_ h_ => h_)) (Go.Proofs.YtmdpjmcleckedaaDoor.M.V_lt (by (with_reducible repeat (first | apply Kd.V_alloc | apply Kd.V_drewN | apply Kd.V_drew)); exact HO_53.out) (by rw [Ny176.out]; decide))) (below_size (by repeat (first | (with_reducible first | exact HB.out | apply below_alloc | apply pw_below_drewN | apply below_drew1 | refine below_set ?_ GE163.out) | exact HB.out))))
                                     have n5_ := Aside0.mk (blk_below (g := gb163) (o := .cells #[.int .i64 a0_0, .int .i64 a0_1] 26 (0, 0)) (by (with_reducible repeat (first | refine blk_drewN ?_ _ | refine blk_drew ?_ | refine blk_alloc ?_ _)); exact BK163.out) hb)
                                     have n6_ := Aside0.mk (below_step (by repeat (first | (with_reducible first | exact HB.out | apply below_alloc | apply pw_below_drewN | apply below_drew1 | refine below_set ?_ GE163.out) | exact HB.out)) hb)
                                     clear HO_1; clear HO_53; clear HO_59; clear HO_77; clear BK163; clear HB; have HO_1 := n0_; have HO_53 := n1_; have HO_59 := n2_; have HO_77 := n3_; have HO186 := n4_; have BK163 := n5_; have HB := n6_; clear n0_ n1_ n2_ n3_ n4_ n5_ n6_; clear hb ho93
                                     refine hK.out _ _ ⟨(blk_cell BK163.out 0).trans rfl, (blk_cell BK163.out 1).trans rfl⟩ (fun hHeld => ?_)
                                     clear hK K
                                     refine norm_ (a' := ?_) ?_ ?_
                                     rotate_left
                                     ·show Act.put _ (some 112) _ = _
                                      simp only [Act.put, List.setIfInBounds_toArray, List.set_cons_zero, List.set_cons_succ, i64_w, i32_w]; rfl
                                     exact norm_ (by first | (simp only [putAll, Act.put, List.setIfInBounds_toArray, List.set_cons_zero, List.set_cons_succ]; done) | (simp only [putAll, Act.put, List.setIfInBounds_toArray, List.set_cons_zero, List.set_cons_succ]; rfl)) (hJ1_8_15 (v185) _ ⟨hHeld, (by (with_reducible repeat (first | apply Kd.R_alloc | apply Kd.R_drewN | apply Kd.R_drew)); exact Kd.R_mono HO186.out (fun _ hk => ⟨hk.1.1, hk.2⟩)), (by (with_reducible repeat (first | apply Kd.V_alloc | apply Kd.V_drewN | apply Kd.V_drew)); exact Kd.V_mono HO_1.out (fun _ hk => ⟨hk.1.1, ⟨hk.2, ⟨hk.1.2.1, hk.1.2.2⟩⟩⟩)), (by (with_reducible repeat (first | apply Kd.V_alloc | apply Kd.V_drewN | apply Kd.V_drew)); exact HO_53.out), (by (with_reducible repeat (first | apply Kd.V_alloc | apply Kd.V_drewN | apply Kd.V_drew)); exact Kd.V_mono HO_59.out (fun _ hk => ⟨hk.1.1, ⟨hk.2, ⟨hk.1.2.1, hk.1.2.2⟩⟩⟩)), (by (with_reducible repeat (first | apply Kd.V_alloc | apply Kd.V_drewN | apply Kd.V_drew)); exact Kd.V_mono HO_77.out (fun _ hk => ⟨hk.1.1, ⟨hk.2, ⟨hk.1.2.1, hk.1.2.2⟩⟩⟩)), (by (with_reducible repeat (first | refine blk_drewN ?_ _ | refine blk_drew ?_ | refine blk_alloc ?_ _)); exact BK163.out), (by repeat (first | (with_reducible first | exact HB.out | apply below_alloc | apply pw_below_drewN | apply below_drew1 | refine below_set ?_ GE163.out) | exact HB.out))⟩)
                                   ·skip
                                    rintro v185 w92 ⟨hS_, h0_, h1_, h2_, h3_, h4_, h5_, h6_⟩
                                    have n0_ : Aside0 (Kd.R (Kd.int .u8) 5 w92 w.heap.size (fun k_ => (w.heap.size ≤ k_) ∧ some k_ ≠ (.slice (some ad179) y176.length co58 : Value).ownBlock) v185 y184) := ⟨h0_⟩
                                    have n1_ : Aside0 (Kd.V (Kd.int .i64) 3 w92 w.heap.size (fun k_ => (P1_ k_ ∨ w.heap.size ≤ k_) ∧ some k_ ≠ (v185 : Value).ownBlock ∧ some k_ ≠ (.slice (some ad179) y176.length co58 : Value).ownBlock ∧ k_ ≠ gb163) (.slice (some ad167) l1.length c1) l1) := ⟨h1_⟩
                                    have n2_ : Aside0 (Kd.V (Kd.int .u8) 5 w92 w.heap.size (fun k_ => (w.heap.size ≤ k_) ∧ some k_ ≠ (v185 : Value).ownBlock) (.slice (some ad179) y176.length co58) y176) := ⟨h2_⟩
                                    have n3_ : Aside0 (Kd.V (Kd.int .i64) 3 w92 w.heap.size (fun k_ => (P1_ k_ ∨ w.heap.size ≤ k_) ∧ some k_ ≠ (v185 : Value).ownBlock ∧ some k_ ≠ (.slice (some ad179) y176.length co58 : Value).ownBlock ∧ k_ ≠ gb163) (.slice (some ad167) l1.length c1) l1) := ⟨h3_⟩
                                    have n4_ : Aside0 (Kd.V (Kd.int .i64) 3 w92 w.heap.size (fun k_ => (P1_ k_ ∨ w.heap.size ≤ k_) ∧ some k_ ≠ (v185 : Value).ownBlock ∧ some k_ ≠ (.slice (some ad179) y176.length co58 : Value).ownBlock ∧ k_ ≠ gb163) (.slice (some ad167) l1.length c1) l1) := ⟨h4_⟩
                                    have n5_ : Aside0 (w92.heap[gb163]? = some (.cells #[.int .i64 a0_0, .int .i64 a0_1] 26 (0, 0))) := ⟨h5_⟩
                                    have n6_ : Aside0 (Below w.heap.size w w92) := ⟨h6_⟩
                                    clear HO_1; clear HO_53; clear HO_59; clear HO_77; clear BK163; clear HB; clear h0_ h1_ h2_ h3_ h4_ h5_ h6_; have HO186 := n0_; have HO_1 := n1_; have HO_53 := n2_; have HO_59 := n3_; have HO_77 := n4_; have BK163 := n5_; have HB := n6_; clear n0_ n1_ n2_ n3_ n4_ n5_ n6_
                                    have hHeld : w92.cell? ⟨gb163, 0, none⟩ = some (.int .i64 a0_0) ∧ w92.cell? ⟨gb163, 1, none⟩ = some (.int .i64 a0_1) := hS_
                                    refine norm_ (a' := ?_) ?_ ?_
                                    rotate_left
                                    ·simp only [putAll, Act.put, List.setIfInBounds_toArray, List.set_cons_zero, List.set_cons_succ]; rfl
                                    refine two_ (i := 2) (j := 15) (Ni := some 113) (Nj := some 126) #[true, true, true, true, true, true, true, true, true, false, true, true, true, true, true, false, false, false] #[true, true, false, true, true, true, true, true, true, false, true, true, true, true, true, true, false, false] rfl rfl rfl rfl (two_of HT_.out (by kernel_rfl)) (by decide) (by decide) (fun K hK => ?_) (fun K hK => ?_)
                                    ·skip
                                     have hcv93 := own_string (P := Tryd.prog) Tryd.underlying42 Tryd.underlying5 Tryd.underlying9 (Kd.own_of_R HO186.out)
                                     refine value_ (w1 := ?_) (v := ?_) (by rfl) rfl ?_ ?_
                                     rotate_left 2
                                     ·go_simp
                                      constructor
                                      ·rfl
                                      ·rfl
                                     clear hcv93
                                     refine hK.out _ _ ⟨(blk_cell BK163.out 0).trans rfl, (blk_cell BK163.out 1).trans rfl⟩ (fun hHeld => ?_)
                                     clear hK K
                                     refine norm_ (a' := ?_) ?_ ?_
                                     rotate_left
                                     ·show Act.put _ (some 113) _ = _
                                      simp only [Act.put, List.setIfInBounds_toArray, List.set_cons_zero, List.set_cons_succ, i64_w, i32_w]; rfl
                                     refine pure_ (i := 9) (N := some 120) (v := ?_) (a' := ?_) #[true, true, true, true, true, true, true, true, true, true, true, true, true, true, true, false, false, false] rfl rfl (any_of HT_.out (by kernel_rfl)) (fun _ _ _ h => h) (Or.inl ⟨by rfl, ?_⟩) ?_ ?_; rotate_left
                                     ·intro w'; go_simp; with_reducible rfl
                                     rotate_left
                                     ·simp only [Act.put, List.setIfInBounds_toArray, List.set_cons_zero, List.set_cons_succ, i64_w, i32_w]; rfl
                                     exact norm_ (by first | (simp only [putAll, Act.put, List.setIfInBounds_toArray, List.set_cons_zero, List.set_cons_succ]; done) | (simp only [putAll, Act.put, List.setIfInBounds_toArray, List.set_cons_zero, List.set_cons_succ]; rfl)) (hJ1_2_8 (v185) _ ⟨hHeld, (by (with_reducible repeat (first | apply Kd.R_alloc | apply Kd.R_drewN | apply Kd.R_drew)); exact HO186.out), (by (with_reducible repeat (first | apply Kd.V_alloc | apply Kd.V_drewN | apply Kd.V_drew)); exact HO_1.out), (by (with_reducible repeat (first | apply Kd.V_alloc | apply Kd.V_drewN | apply Kd.V_drew)); exact HO_53.out), (by (with_reducible repeat (first | apply Kd.V_alloc | apply Kd.V_drewN | apply Kd.V_drew)); exact HO_59.out), (by (with_reducible repeat (first | apply Kd.V_alloc | apply Kd.V_drewN | apply Kd.V_drew)); exact HO_77.out), (by (with_reducible repeat (first | refine blk_drewN ?_ _ | refine blk_drew ?_ | refine blk_alloc ?_ _)); exact BK163.out), (by repeat (first | (with_reducible first | exact HB.out | apply below_alloc | apply pw_below_drewN | apply below_drew1 | refine below_set ?_ GE163.out) | exact HB.out))⟩)
                                    ·skip
                                     refine goes_ Tryd.func11 (by kernel_rfl) rfl #[.agg #[.int .i64 a0_0, .int .i64 x79_5], .slice (some ad167) l1.length c1] (by rfl) rfl rfl (by first | rfl | (simp only [List.map_toArray, List.map_cons, List.map_nil, List.length_drop, List.length_take]; rfl)) ?_
                                     with_reducible refine (ih kj75 (by have := HJ13.out; have := HK2.out; have := HK3.out; have := HJ64.out; have := HK5.out; have := HJ73.out; have := HJ75.out; omega) a0_0 x79_5 (fun k_ => ((P1_ k_ ∨ w.heap.size ≤ k_) ∧ (some k_ ≠ (v185 : Value).ownBlock ∧ (some k_ ≠ (.slice (some ad179) y176.length co58 : Value).ownBlock ∧ k_ ≠ gb163)))) _ _ l1 t188 _ ?side1 A86.out).mono ?_
                                     (case side1 => exact HO_1.out)
                                     rintro e w93 ⟨rfl, hb⟩
                                     refine ⟨_, rfl, ?_⟩
                                     have n0_ := Aside0.mk (Kd.V_below (by (with_reducible repeat (first | apply Kd.V_alloc | apply Kd.V_drewN | apply Kd.V_drew)); exact HO_1.out) hb)
                                     have n1_ := Aside0.mk (Kd.V_below (by (with_reducible repeat (first | apply Kd.V_alloc | apply Kd.V_drewN | apply Kd.V_drew)); exact HO_53.out) hb)
                                     have n2_ := Aside0.mk (Kd.V_below (by (with_reducible repeat (first | apply Kd.V_alloc | apply Kd.V_drewN | apply Kd.V_drew)); exact HO_59.out) hb)
                                     have n3_ := Aside0.mk (Kd.V_below (by (with_reducible repeat (first | apply Kd.V_alloc | apply Kd.V_drewN | apply Kd.V_drew)); exact HO_77.out) hb)
                                     have n4_ := Aside0.mk (Kd.R_below (by (with_reducible repeat (first | apply Kd.R_alloc | apply Kd.R_drewN | apply Kd.R_drew)); exact HO186.out) hb)
                                     have n5_ := Aside0.mk (blk_below (g := gb163) (o := .cells #[.int .i64 a0_0, .int .i64 a0_1] 26 (0, 0)) (by (with_reducible repeat (first | refine blk_drewN ?_ _ | refine blk_drew ?_ | refine blk_alloc ?_ _)); exact BK163.out) hb)
                                     have n6_ := Aside0.mk (below_step (by repeat (first | (with_reducible first | exact HB.out | apply below_alloc | apply pw_below_drewN | apply below_drew1 | refine below_set ?_ GE163.out) | exact HB.out)) hb)
                                     clear HO_1; clear HO_53; clear HO_59; clear HO_77; clear HO186; clear BK163; clear HB; have HO_1 := n0_; have HO_53 := n1_; have HO_59 := n2_; have HO_77 := n3_; have HO186 := n4_; have BK163 := n5_; have HB := n6_; clear n0_ n1_ n2_ n3_ n4_ n5_ n6_; (try clear hb); (try clear hb2); (try clear hk); (try clear hi)
                                     refine hK.out _ _ ⟨(blk_cell BK163.out 0).trans rfl, (blk_cell BK163.out 1).trans rfl⟩ (fun hHeld => ?_)
                                     clear hK K
                                     refine norm_ (a' := ?_) ?_ ?_
                                     rotate_left
                                     ·show Act.put _ (some 126) _ = _
                                      simp only [Act.put, List.setIfInBounds_toArray, List.set_cons_zero, List.set_cons_succ, i64_w, i32_w]; rfl
                                     exact norm_ (by first | (simp only [putAll, Act.put, List.setIfInBounds_toArray, List.set_cons_zero, List.set_cons_succ]; done) | (simp only [putAll, Act.put, List.setIfInBounds_toArray, List.set_cons_zero, List.set_cons_succ]; rfl)) (hJ1_8_15 (v185) _ ⟨hHeld, (by (with_reducible repeat (first | apply Kd.R_alloc | apply Kd.R_drewN | apply Kd.R_drew)); exact HO186.out), (by (with_reducible repeat (first | apply Kd.V_alloc | apply Kd.V_drewN | apply Kd.V_drew)); exact HO_1.out), (by (with_reducible repeat (first | apply Kd.V_alloc | apply Kd.V_drewN | apply Kd.V_drew)); exact HO_53.out), (by (with_reducible repeat (first | apply Kd.V_alloc | apply Kd.V_drewN | apply Kd.V_drew)); exact HO_59.out), (by (with_reducible repeat (first | apply Kd.V_alloc | apply Kd.V_drewN | apply Kd.V_drew)); exact HO_77.out), (by (with_reducible repeat (first | refine blk_drewN ?_ _ | refine blk_drew ?_ | refine blk_alloc ?_ _)); exact BK163.out), (by repeat (first | (with_reducible first | exact HB.out | apply below_alloc | apply pw_below_drewN | apply below_drew1 | refine below_set ?_ GE163.out) | exact HB.out))⟩)
                                  ·skip
                                   rintro v185 w92 ⟨hS_, h0_, h1_, h2_, h3_, h4_, h5_, h6_⟩
                                   have n0_ : Aside0 (Kd.R (Kd.int .u8) 5 w92 w.heap.size (fun k_ => (w.heap.size ≤ k_) ∧ some k_ ≠ (.slice (some ad179) y176.length co58 : Value).ownBlock) v185 y184) := ⟨h0_⟩
                                   have n1_ : Aside0 (Kd.V (Kd.int .i64) 3 w92 w.heap.size (fun k_ => (P1_ k_ ∨ w.heap.size ≤ k_) ∧ some k_ ≠ (v185 : Value).ownBlock ∧ some k_ ≠ (.slice (some ad179) y176.length co58 : Value).ownBlock ∧ k_ ≠ gb163) (.slice (some ad167) l1.length c1) l1) := ⟨h1_⟩
                                   have n2_ : Aside0 (Kd.V (Kd.int .u8) 5 w92 w.heap.size (fun k_ => (w.heap.size ≤ k_) ∧ some k_ ≠ (v185 : Value).ownBlock) (.slice (some ad179) y176.length co58) y176) := ⟨h2_⟩
                                   have n3_ : Aside0 (Kd.V (Kd.int .i64) 3 w92 w.heap.size (fun k_ => (P1_ k_ ∨ w.heap.size ≤ k_) ∧ some k_ ≠ (v185 : Value).ownBlock ∧ some k_ ≠ (.slice (some ad179) y176.length co58 : Value).ownBlock ∧ k_ ≠ gb163) (.slice (some ad167) l1.length c1) l1) := ⟨h3_⟩
                                   have n4_ : Aside0 (Kd.V (Kd.int .i64) 3 w92 w.heap.size (fun k_ => (P1_ k_ ∨ w.heap.size ≤ k_) ∧ some k_ ≠ (v185 : Value).ownBlock ∧ some k_ ≠ (.slice (some ad179) y176.length co58 : Value).ownBlock ∧ k_ ≠ gb163) (.slice (some ad167) l1.length c1) l1) := ⟨h4_⟩
                                   have n5_ : Aside0 (w92.heap[gb163]? = some (.cells #[.int .i64 a0_0, .int .i64 a0_1] 26 (0, 0))) := ⟨h5_⟩
                                   have n6_ : Aside0 (Below w.heap.size w w92) := ⟨h6_⟩
                                   clear HO_1; clear HO_53; clear HO_59; clear HO_77; clear BK163; clear HB; clear h0_ h1_ h2_ h3_ h4_ h5_ h6_; have HO186 := n0_; have HO_1 := n1_; have HO_53 := n2_; have HO_59 := n3_; have HO_77 := n4_; have BK163 := n5_; have HB := n6_; clear n0_ n1_ n2_ n3_ n4_ n5_ n6_
                                   have hHeld : w92.cell? ⟨gb163, 0, none⟩ = some (.int .i64 a0_0) ∧ w92.cell? ⟨gb163, 1, none⟩ = some (.int .i64 a0_1) := hS_
                                   refine norm_ (a' := ?_) ?_ ?_
                                   rotate_left
                                   ·simp only [putAll, Act.put, List.setIfInBounds_toArray, List.set_cons_zero, List.set_cons_succ]; rfl
                                   refine one_ (i := 8) (N := some 119) #[true, true, true, true, true, true, true, true, true, false, true, true, true, true, true, false, false, false] rfl rfl (one_of HT_.out (by kernel_rfl)) (by decide) (fun K hK => ?_)
                                   refine goes_ Tryd.func11 (by kernel_rfl) rfl #[.agg #[.int .i64 a0_0, .int .i64 x61_3], .slice (some ad167) l1.length c1] (by rfl) rfl rfl (by first | rfl | (simp only [List.map_toArray, List.map_cons, List.map_nil, List.length_drop, List.length_take]; rfl)) ?_
                                   with_reducible refine (ih kj75 (by have := HJ13.out; have := HK2.out; have := HK3.out; have := HJ64.out; have := HK5.out; have := HJ73.out; have := HJ75.out; omega) a0_0 x61_3 (fun k_ => ((P1_ k_ ∨ w.heap.size ≤ k_) ∧ (some k_ ≠ (v185 : Value).ownBlock ∧ (some k_ ≠ (.slice (some ad179) y176.length co58 : Value).ownBlock ∧ k_ ≠ gb163)))) _ _ l1 t187 _ ?side1 A84.out).mono ?_
                                   (case side1 => exact HO_1.out)
                                   rintro e w93 ⟨rfl, hb⟩
                                   refine ⟨_, rfl, ?_⟩
                                   have n0_ := Aside0.mk (Kd.V_below (by (with_reducible repeat (first | apply Kd.V_alloc | apply Kd.V_drewN | apply Kd.V_drew)); exact HO_1.out) hb)
                                   have n1_ := Aside0.mk (Kd.V_below (by (with_reducible repeat (first | apply Kd.V_alloc | apply Kd.V_drewN | apply Kd.V_drew)); exact HO_53.out) hb)
                                   have n2_ := Aside0.mk (Kd.V_below (by (with_reducible repeat (first | apply Kd.V_alloc | apply Kd.V_drewN | apply Kd.V_drew)); exact HO_59.out) hb)
                                   have n3_ := Aside0.mk (Kd.V_below (by (with_reducible repeat (first | apply Kd.V_alloc | apply Kd.V_drewN | apply Kd.V_drew)); exact HO_77.out) hb)
                                   have n4_ := Aside0.mk (Kd.R_below (by (with_reducible repeat (first | apply Kd.R_alloc | apply Kd.R_drewN | apply Kd.R_drew)); exact HO186.out) hb)
                                   have n5_ := Aside0.mk (blk_below (g := gb163) (o := .cells #[.int .i64 a0_0, .int .i64 a0_1] 26 (0, 0)) (by (with_reducible repeat (first | refine blk_drewN ?_ _ | refine blk_drew ?_ | refine blk_alloc ?_ _)); exact BK163.out) hb)
                                   have n6_ := Aside0.mk (below_step (by repeat (first | (with_reducible first | exact HB.out | apply below_alloc | apply pw_below_drewN | apply below_drew1 | refine below_set ?_ GE163.out) | exact HB.out)) hb)
                                   clear HO_1; clear HO_53; clear HO_59; clear HO_77; clear HO186; clear BK163; clear HB; have HO_1 := n0_; have HO_53 := n1_; have HO_59 := n2_; have HO_77 := n3_; have HO186 := n4_; have BK163 := n5_; have HB := n6_; clear n0_ n1_ n2_ n3_ n4_ n5_ n6_; (try clear hb); (try clear hb2); (try clear hk); (try clear hi)
                                   refine hK.out _ _ ⟨(blk_cell BK163.out 0).trans rfl, (blk_cell BK163.out 1).trans rfl⟩ (fun hHeld => ?_)
                                   clear hK K
                                   refine norm_ (a' := ?_) ?_ ?_
                                   rotate_left
                                   ·show Act.put _ (some 119) _ = _
                                    simp only [Act.put, List.setIfInBounds_toArray, List.set_cons_zero, List.set_cons_succ, i64_w, i32_w]; rfl
                                   refine pure_ (i := 9) (N := some 120) (v := ?_) (a' := ?_) #[true, true, true, true, true, true, true, true, true, true, true, true, true, true, true, false, false, false] rfl rfl (any_of HT_.out (by kernel_rfl)) (fun _ _ _ h => h) (Or.inl ⟨by rfl, ?_⟩) ?_ ?_; rotate_left
                                   ·intro w'; go_simp; with_reducible rfl
                                   rotate_left
                                   ·simp only [Act.put, List.setIfInBounds_toArray, List.set_cons_zero, List.set_cons_succ, i64_w, i32_w]; rfl
                                   exact norm_ (by first | (simp only [putAll, Act.put, List.setIfInBounds_toArray, List.set_cons_zero, List.set_cons_succ]; done) | (simp only [putAll, Act.put, List.setIfInBounds_toArray, List.set_cons_zero, List.set_cons_succ]; rfl)) (hJ1_2_8 (v185) _ ⟨hHeld, (by (with_reducible repeat (first | apply Kd.R_alloc | apply Kd.R_drewN | apply Kd.R_drew)); exact HO186.out), (by (with_reducible repeat (first | apply Kd.V_alloc | apply Kd.V_drewN | apply Kd.V_drew)); exact HO_1.out), (by (with_reducible repeat (first | apply Kd.V_alloc | apply Kd.V_drewN | apply Kd.V_drew)); exact HO_53.out), (by (with_reducible repeat (first | apply Kd.V_alloc | apply Kd.V_drewN | apply Kd.V_drew)); exact HO_59.out), (by (with_reducible repeat (first | apply Kd.V_alloc | apply Kd.V_drewN | apply Kd.V_drew)); exact HO_77.out), (by (with_reducible repeat (first | refine blk_drewN ?_ _ | refine blk_drew ?_ | refine blk_alloc ?_ _)); exact BK163.out), (by repeat (first | (with_reducible first | exact HB.out | apply below_alloc | apply pw_below_drewN | apply below_drew1 | refine below_set ?_ GE163.out) | exact HB.out))⟩)
                                 ·skip
                                  rintro v185 w93 ⟨hS_, h0_, h1_, h2_, h3_, h4_, h5_, h6_⟩
                                  have n0_ : Aside0 (Kd.R (Kd.int .u8) 5 w93 w.heap.size (fun k_ => (w.heap.size ≤ k_) ∧ some k_ ≠ (.slice (some ad179) y176.length co58 : Value).ownBlock) v185 y184) := ⟨h0_⟩
                                  have n1_ : Aside0 (Kd.V (Kd.int .i64) 3 w93 w.heap.size (fun k_ => (P1_ k_ ∨ w.heap.size ≤ k_) ∧ some k_ ≠ (v185 : Value).ownBlock ∧ some k_ ≠ (.slice (some ad179) y176.length co58 : Value).ownBlock ∧ k_ ≠ gb163) (.slice (some ad167) l1.length c1) l1) := ⟨h1_⟩
                                  have n2_ : Aside0 (Kd.V (Kd.int .u8) 5 w93 w.heap.size (fun k_ => (w.heap.size ≤ k_) ∧ some k_ ≠ (v185 : Value).ownBlock) (.slice (some ad179) y176.length co58) y176) := ⟨h2_⟩
                                  have n3_ : Aside0 (Kd.V (Kd.int .i64) 3 w93 w.heap.size (fun k_ => (P1_ k_ ∨ w.heap.size ≤ k_) ∧ some k_ ≠ (v185 : Value).ownBlock ∧ some k_ ≠ (.slice (some ad179) y176.length co58 : Value).ownBlock ∧ k_ ≠ gb163) (.slice (some ad167) l1.length c1) l1) := ⟨h3_⟩
                                  have n4_ : Aside0 (Kd.V (Kd.int .i64) 3 w93 w.heap.size (fun k_ => (P1_ k_ ∨ w.heap.size ≤ k_) ∧ some k_ ≠ (v185 : Value).ownBlock ∧ some k_ ≠ (.slice (some ad179) y176.length co58 : Value).ownBlock ∧ k_ ≠ gb163) (.slice (some ad167) l1.length c1) l1) := ⟨h4_⟩
                                  have n5_ : Aside0 (w93.heap[gb163]? = some (.cells #[.int .i64 a0_0, .int .i64 a0_1] 26 (0, 0))) := ⟨h5_⟩
                                  have n6_ : Aside0 (Below w.heap.size w w93) := ⟨h6_⟩
                                  clear HO_1; clear HO_53; clear HO_59; clear HO_77; clear BK163; clear HB; clear h0_ h1_ h2_ h3_ h4_ h5_ h6_; have HO186 := n0_; have HO_1 := n1_; have HO_53 := n2_; have HO_59 := n3_; have HO_77 := n4_; have BK163 := n5_; have HB := n6_; clear n0_ n1_ n2_ n3_ n4_ n5_ n6_
                                  have hHeld : w93.cell? ⟨gb163, 0, none⟩ = some (.int .i64 a0_0) ∧ w93.cell? ⟨gb163, 1, none⟩ = some (.int .i64 a0_1) := hS_
                                  refine norm_ (a' := ?_) ?_ ?_
                                  rotate_left
                                  ·simp only [putAll, Act.put, List.setIfInBounds_toArray, List.set_cons_zero, List.set_cons_succ]; rfl
                                  refine one_ (i := 2) (N := some 113) #[true, true, true, true, true, true, true, true, true, false, true, true, true, true, true, true, false, false] rfl rfl (one_of HT_.out (by kernel_rfl)) (by decide) (fun K hK => ?_)
                                  have hcv94 := own_string (P := Tryd.prog) Tryd.underlying42 Tryd.underlying5 Tryd.underlying9 (Kd.own_of_R HO186.out)
                                  refine value_ (w1 := ?_) (v := ?_) (by rfl) rfl ?_ ?_
                                  rotate_left 2
                                  ·go_simp
                                   constructor
                                   ·rfl
                                   ·rfl
                                  clear hcv94
                                  refine hK.out _ _ ⟨(blk_cell BK163.out 0).trans rfl, (blk_cell BK163.out 1).trans rfl⟩ (fun hHeld => ?_)
                                  clear hK K
                                  refine norm_ (a' := ?_) ?_ ?_
                                  rotate_left
                                  ·show Act.put _ (some 113) _ = _
                                   simp only [Act.put, List.setIfInBounds_toArray, List.set_cons_zero, List.set_cons_succ, i64_w, i32_w]; rfl
                                  refine pure_ (i := 9) (N := some 120) (v := ?_) (a' := ?_) #[true, true, true, true, true, true, true, true, true, true, true, true, true, true, true, true, false, false] rfl rfl (any_of HT_.out (by kernel_rfl)) (fun _ _ _ h => h) (Or.inl ⟨by rfl, ?_⟩) ?_ ?_; rotate_left
                                  ·intro w'; go_simp; with_reducible rfl
                                  rotate_left
                                  ·simp only [Act.put, List.setIfInBounds_toArray, List.set_cons_zero, List.set_cons_succ, i64_w, i32_w]; rfl
                                  exact norm_ (by first | (simp only [putAll, Act.put, List.setIfInBounds_toArray, List.set_cons_zero, List.set_cons_succ]; done) | (simp only [putAll, Act.put, List.setIfInBounds_toArray, List.set_cons_zero, List.set_cons_succ]; rfl)) (hJ1_2_8_15 (v185) _ ⟨hHeld, (by (with_reducible repeat (first | apply Kd.R_alloc | apply Kd.R_drewN | apply Kd.R_drew)); exact HO186.out), (by (with_reducible repeat (first | apply Kd.V_alloc | apply Kd.V_drewN | apply Kd.V_drew)); exact HO_1.out), (by (with_reducible repeat (first | apply Kd.V_alloc | apply Kd.V_drewN | apply Kd.V_drew)); exact HO_53.out), (by (with_reducible repeat (first | apply Kd.V_alloc | apply Kd.V_drewN | apply Kd.V_drew)); exact HO_59.out), (by (with_reducible repeat (first | apply Kd.V_alloc | apply Kd.V_drewN | apply Kd.V_drew)); exact HO_77.out), (by (with_reducible repeat (first | refine blk_drewN ?_ _ | refine blk_drew ?_ | refine blk_alloc ?_ _)); exact BK163.out), (by repeat (first | (with_reducible first | exact HB.out | apply below_alloc | apply pw_below_drewN | apply below_drew1 | refine below_set ?_ GE163.out) | exact HB.out))⟩)
                                ·skip
                                 rintro v185 w93 ⟨hS_, h0_, h1_, h2_, h3_, h4_, h5_, h6_⟩
                                 have n0_ : Aside0 (Kd.R (Kd.int .u8) 5 w93 w.heap.size (fun k_ => (w.heap.size ≤ k_) ∧ some k_ ≠ (.slice (some ad179) y176.length co58 : Value).ownBlock) v185 y184) := ⟨h0_⟩
                                 have n1_ : Aside0 (Kd.V (Kd.int .i64) 3 w93 w.heap.size (fun k_ => (P1_ k_ ∨ w.heap.size ≤ k_) ∧ some k_ ≠ (v185 : Value).ownBlock ∧ some k_ ≠ (.slice (some ad179) y176.length co58 : Value).ownBlock ∧ k_ ≠ gb163) (.slice (some ad167) l1.length c1) l1) := ⟨h1_⟩
                                 have n2_ : Aside0 (Kd.V (Kd.int .u8) 5 w93 w.heap.size (fun k_ => (w.heap.size ≤ k_) ∧ some k_ ≠ (v185 : Value).ownBlock) (.slice (some ad179) y176.length co58) y176) := ⟨h2_⟩
                                 have n3_ : Aside0 (Kd.V (Kd.int .i64) 3 w93 w.heap.size (fun k_ => (P1_ k_ ∨ w.heap.size ≤ k_) ∧ some k_ ≠ (v185 : Value).ownBlock ∧ some k_ ≠ (.slice (some ad179) y176.length co58 : Value).ownBlock ∧ k_ ≠ gb163) (.slice (some ad167) l1.length c1) l1) := ⟨h3_⟩
                                 have n4_ : Aside0 (Kd.V (Kd.int .i64) 3 w93 w.heap.size (fun k_ => (P1_ k_ ∨ w.heap.size ≤ k_) ∧ some k_ ≠ (v185 : Value).ownBlock ∧ some k_ ≠ (.slice (some ad179) y176.length co58 : Value).ownBlock ∧ k_ ≠ gb163) (.slice (some ad167) l1.length c1) l1) := ⟨h4_⟩
                                 have n5_ : Aside0 (w93.heap[gb163]? = some (.cells #[.int .i64 a0_0, .int .i64 a0_1] 26 (0, 0))) := ⟨h5_⟩
                                 have n6_ : Aside0 (Below w.heap.size w w93) := ⟨h6_⟩
                                 clear HO_1; clear HO_53; clear HO_59; clear HO_77; clear BK163; clear HB; clear h0_ h1_ h2_ h3_ h4_ h5_ h6_; have HO186 := n0_; have HO_1 := n1_; have HO_53 := n2_; have HO_59 := n3_; have HO_77 := n4_; have BK163 := n5_; have HB := n6_; clear n0_ n1_ n2_ n3_ n4_ n5_ n6_
                                 have hHeld : w93.cell? ⟨gb163, 0, none⟩ = some (.int .i64 a0_0) ∧ w93.cell? ⟨gb163, 1, none⟩ = some (.int .i64 a0_1) := hS_
                                 refine norm_ (a' := ?_) ?_ ?_
                                 rotate_left
                                 ·simp only [putAll, Act.put, List.setIfInBounds_toArray, List.set_cons_zero, List.set_cons_succ]; rfl
                                 refine one_ (i := 15) (N := some 126) #[true, true, true, true, true, true, true, true, true, true, true, true, true, true, true, true, false, false] rfl rfl (one_of HT_.out (by kernel_rfl)) (by decide) (fun K hK => ?_)
                                 refine goes_ Tryd.func11 (by kernel_rfl) rfl #[.agg #[.int .i64 a0_0, .int .i64 x79_5], .slice (some ad167) l1.length c1] (by rfl) rfl rfl (by first | rfl | (simp only [List.map_toArray, List.map_cons, List.map_nil, List.length_drop, List.length_take]; rfl)) ?_
                                 with_reducible refine (ih kj75 (by have := HJ13.out; have := HK2.out; have := HK3.out; have := HJ64.out; have := HK5.out; have := HJ73.out; have := HJ75.out; omega) a0_0 x79_5 (fun k_ => ((P1_ k_ ∨ w.heap.size ≤ k_) ∧ (some k_ ≠ (v185 : Value).ownBlock ∧ (some k_ ≠ (.slice (some ad179) y176.length co58 : Value).ownBlock ∧ k_ ≠ gb163)))) _ _ l1 t188 _ ?side1 A86.out).mono ?_
                                 (case side1 => exact HO_1.out)
                                 rintro e w94 ⟨rfl, hb⟩
                                 refine ⟨_, rfl, ?_⟩
                                 have n0_ := Aside0.mk (Kd.V_below (by (with_reducible repeat (first | apply Kd.V_alloc | apply Kd.V_drewN | apply Kd.V_drew)); exact HO_1.out) hb)
                                 have n1_ := Aside0.mk (Kd.V_below (by (with_reducible repeat (first | apply Kd.V_alloc | apply Kd.V_drewN | apply Kd.V_drew)); exact HO_53.out) hb)
                                 have n2_ := Aside0.mk (Kd.V_below (by (with_reducible repeat (first | apply Kd.V_alloc | apply Kd.V_drewN | apply Kd.V_drew)); exact HO_59.out) hb)
                                 have n3_ := Aside0.mk (Kd.V_below (by (with_reducible repeat (first | apply Kd.V_alloc | apply Kd.V_drewN | apply Kd.V_drew)); exact HO_77.out) hb)
                                 have n4_ := Aside0.mk (Kd.R_below (by (with_reducible repeat (first | apply Kd.R_alloc | apply Kd.R_drewN | apply Kd.R_drew)); exact HO186.out) hb)
                                 have n5_ := Aside0.mk (blk_below (g := gb163) (o := .cells #[.int .i64 a0_0, .int .i64 a0_1] 26 (0, 0)) (by (with_reducible repeat (first | refine blk_drewN ?_ _ | refine blk_drew ?_ | refine blk_alloc ?_ _)); exact BK163.out) hb)
                                 have n6_ := Aside0.mk (below_step (by repeat (first | (with_reducible first | exact HB.out | apply below_alloc | apply pw_below_drewN | apply below_drew1 | refine below_set ?_ GE163.out) | exact HB.out)) hb)
                                 clear HO_1; clear HO_53; clear HO_59; clear HO_77; clear HO186; clear BK163; clear HB; have HO_1 := n0_; have HO_53 := n1_; have HO_59 := n2_; have HO_77 := n3_; have HO186 := n4_; have BK163 := n5_; have HB := n6_; clear n0_ n1_ n2_ n3_ n4_ n5_ n6_; (try clear hb); (try clear hb2); (try clear hk); (try clear hi)
                                 refine hK.out _ _ ⟨(blk_cell BK163.out 0).trans rfl, (blk_cell BK163.out 1).trans rfl⟩ (fun hHeld => ?_)
                                 clear hK K
                                 refine norm_ (a' := ?_) ?_ ?_
                                 rotate_left
                                 ·show Act.put _ (some 126) _ = _
                                  simp only [Act.put, List.setIfInBounds_toArray, List.set_cons_zero, List.set_cons_succ, i64_w, i32_w]; rfl
                                 exact norm_ (by first | (simp only [putAll, Act.put, List.setIfInBounds_toArray, List.set_cons_zero, List.set_cons_succ]; done) | (simp only [putAll, Act.put, List.setIfInBounds_toArray, List.set_cons_zero, List.set_cons_succ]; rfl)) (hJ1_2_8_15 (v185) _ ⟨hHeld, (by (with_reducible repeat (first | apply Kd.R_alloc | apply Kd.R_drewN | apply Kd.R_drew)); exact HO186.out), (by (with_reducible repeat (first | apply Kd.V_alloc | apply Kd.V_drewN | apply Kd.V_drew)); exact HO_1.out), (by (with_reducible repeat (first | apply Kd.V_alloc | apply Kd.V_drewN | apply Kd.V_drew)); exact HO_53.out), (by (with_reducible repeat (first | apply Kd.V_alloc | apply Kd.V_drewN | apply Kd.V_drew)); exact HO_59.out), (by (with_reducible repeat (first | apply Kd.V_alloc | apply Kd.V_drewN | apply Kd.V_drew)); exact HO_77.out), (by (with_reducible repeat (first | refine blk_drewN ?_ _ | refine blk_drew ?_ | refine blk_alloc ?_ _)); exact BK163.out), (by repeat (first | (with_reducible first | exact HB.out | apply below_alloc | apply pw_below_drewN | apply below_drew1 | refine below_set ?_ GE163.out) | exact HB.out))⟩)
                               rintro v185 w94 ⟨hS_, h0_, h1_, h2_, h3_, h4_, h5_, h6_⟩
                               have n0_ : Aside0 (Kd.R (Kd.int .u8) 5 w94 w.heap.size (fun k_ => (w.heap.size ≤ k_) ∧ some k_ ≠ (.slice (some ad179) y176.length co58 : Value).ownBlock) v185 y184) := ⟨h0_⟩
                               have n1_ : Aside0 (Kd.V (Kd.int .i64) 3 w94 w.heap.size (fun k_ => (P1_ k_ ∨ w.heap.size ≤ k_) ∧ some k_ ≠ (v185 : Value).ownBlock ∧ some k_ ≠ (.slice (some ad179) y176.length co58 : Value).ownBlock ∧ k_ ≠ gb163) (.slice (some ad167) l1.length c1) l1) := ⟨h1_⟩
                               have n2_ : Aside0 (Kd.V (Kd.int .u8) 5 w94 w.heap.size (fun k_ => (w.heap.size ≤ k_) ∧ some k_ ≠ (v185 : Value).ownBlock) (.slice (some ad179) y176.length co58) y176) := ⟨h2_⟩
                               have n3_ : Aside0 (Kd.V (Kd.int .i64) 3 w94 w.heap.size (fun k_ => (P1_ k_ ∨ w.heap.size ≤ k_) ∧ some k_ ≠ (v185 : Value).ownBlock ∧ some k_ ≠ (.slice (some ad179) y176.length co58 : Value).ownBlock ∧ k_ ≠ gb163) (.slice (some ad167) l1.length c1) l1) := ⟨h3_⟩
                               have n4_ : Aside0 (Kd.V (Kd.int .i64) 3 w94 w.heap.size (fun k_ => (P1_ k_ ∨ w.heap.size ≤ k_) ∧ some k_ ≠ (v185 : Value).ownBlock ∧ some k_ ≠ (.slice (some ad179) y176.length co58 : Value).ownBlock ∧ k_ ≠ gb163) (.slice (some ad167) l1.length c1) l1) := ⟨h4_⟩
                               have n5_ : Aside0 (w94.heap[gb163]? = some (.cells #[.int .i64 a0_0, .int .i64 a0_1] 26 (0, 0))) := ⟨h5_⟩
                               have n6_ : Aside0 (Below w.heap.size w w94) := ⟨h6_⟩
                               clear HO_1; clear HO_53; clear HO_59; clear HO_77; clear BK163; clear HB; clear h0_ h1_ h2_ h3_ h4_ h5_ h6_; have HO186 := n0_; have HO_1 := n1_; have HO_53 := n2_; have HO_59 := n3_; have HO_77 := n4_; have BK163 := n5_; have HB := n6_; clear n0_ n1_ n2_ n3_ n4_ n5_ n6_
                               have hHeld : w94.cell? ⟨gb163, 0, none⟩ = some (.int .i64 a0_0) ∧ w94.cell? ⟨gb163, 1, none⟩ = some (.int .i64 a0_1) := hS_
                               refine norm_ (a' := ?_) ?_ ?_
                               rotate_left
                               ·simp only [putAll, Act.put, List.setIfInBounds_toArray, List.set_cons_zero, List.set_cons_succ]; rfl
                               refine pure_ (i := 16) (N := some 127) (v := ?_) (a' := ?_) #[true, true, true, true, true, true, true, true, true, true, true, true, true, true, true, true, true, false] rfl rfl (any_of HT_.out (by kernel_rfl)) (fun _ _ _ h => h) (Or.inl ⟨by rfl, ?_⟩) ?_ ?_; rotate_left
                               ·intro w'; go_simp; with_reducible rfl
                               rotate_left
                               ·simp only [Act.put, List.setIfInBounds_toArray, List.set_cons_zero, List.set_cons_succ, i64_w, i32_w]; rfl
                               refine pure_ (i := 17) (N := some 4) (v := ?_) (a' := ?_) #[true, true, true, true, true, true, true, true, true, true, true, true, true, true, true, true, true, true] rfl rfl (any_of HT_.out (by kernel_rfl)) (fun _ _ _ h => h) (Or.inl ⟨by rfl, ?_⟩) ?_ ?_; rotate_left
                               ·intro w'; go_simp; with_reducible rfl
                               rotate_left
                               ·simp only [Act.put, List.setIfInBounds_toArray, List.set_cons_zero, List.set_cons_succ, i64_w, i32_w]; rfl
                               refine done_ (done_of HT_.out (by kernel_rfl)) ?_
                               try go_wp2
                               go_ret
                               exact ⟨by first | rfl | (simp [errW_none, errW_some] <;> rfl) | (simp [*, errW_none, errW_some] <;> rfl), by repeat (first | (with_reducible first | exact HB.out | apply below_alloc | apply pw_below_drewN | apply below_drew1 | refine below_set ?_ GE163.out) | exact HB.out)⟩
                              ·rw [if_neg c87] at H
                               exact absurd H (by simp)
                             ·rw [if_neg c85] at H
                              exact absurd H (by simp)
                            ·replace c83 := Bool.eq_false_iff.mpr c83
                             subst c83
                             have H1 : (impl_Table_smallest.l3 kj75 l1 (rd y176 x55_2) x61_3 (rd l1 x61_3) y176 (y176.length : Int) x55_2 l1 (l1.length : Int) x61_3 l1 (l1.length : Int) (wrap64 (x79_5 + 1)) a0_0 a0_1) = some r := by rw [if_neg (show ¬ (false = true) by decide)] at H; exact H
                             clear H; have H := H1; clear H1
                             have H' := Aside0.mk H
                             clear H
                             go_wp2
                             go_roundg kj75
                             case measure => have := HJ13.out; have := HK2.out; have := HK3.out; have := HJ64.out; have := HK5.out; have := HJ73.out; have := HJ75.out; omega
                             case rel => exact ⟨(wrap64 (x79_5 + 1)), (by first | rfl | (simp; done) | (simp [*]; done)), H', ⟨by have := HJ13.out; have := HK2.out; have := HK3.out; have := HJ64.out; have := HK5.out; have := HJ73.out; have := HJ75.out; omega⟩, ⟨by (with_reducible repeat (first | apply Kd.V_alloc | apply Kd.V_drewN | apply Kd.V_drew)); exact HO_1.out⟩, ⟨by (with_reducible repeat (first | apply Kd.V_alloc | apply Kd.V_drewN | apply Kd.V_drew)); exact HO_53.out⟩, ⟨by (with_reducible repeat (first | apply Kd.V_alloc | apply Kd.V_drewN | apply Kd.V_drew)); exact HO_59.out⟩, ⟨by (with_reducible repeat (first | apply Kd.V_alloc | apply Kd.V_drewN | apply Kd.V_drew)); exact HO_77.out⟩, ⟨by (with_reducible repeat (first | refine blk_drewN ?_ _ | refine blk_drew ?_ | refine blk_alloc ?_ _)); exact BK163.out⟩, ⟨by repeat (first | (with_reducible first | exact HB.out | apply below_alloc | apply pw_below_drewN | apply below_drew1 | refine below_set ?_ GE163.out) | exact HB.out)⟩⟩
                       ·rw [if_neg c73] at H
                        exact absurd H (by simp)
                      ·rw [if_neg c72] at H
                       exact absurd H (by simp)
                     ·rw [if_neg c71] at H
                      have c71b0 : decide (x79_5 < (l1.length : Int)) = false := decide_eq_false c71
                      clear c71
                      have H' := Aside0.mk H
                      clear H
                      go_wp2
                      go_roundg k5
                      case measure => have := HJ13.out; have := HK2.out; have := HK3.out; have := HJ64.out; have := HK5.out; omega
                      case rel => exact ⟨(wrap64 (x61_3 + 1)), (by first | rfl | (simp; done) | (simp [*]; done)), H', ⟨by have := HJ13.out; have := HK2.out; have := HK3.out; have := HJ64.out; have := HK5.out; omega⟩, ⟨by (with_reducible repeat (first | apply Kd.V_alloc | apply Kd.V_drewN | apply Kd.V_drew)); exact HO_1.out⟩, ⟨by (with_reducible repeat (first | apply Kd.V_alloc | apply Kd.V_drewN | apply Kd.V_drew)); exact HO_53.out⟩, ⟨by (with_reducible repeat (first | apply Kd.V_alloc | apply Kd.V_drewN | apply Kd.V_drew)); exact HO_59.out⟩, ⟨by (with_reducible repeat (first | refine blk_drewN ?_ _ | refine blk_drew ?_ | refine blk_alloc ?_ _)); exact BK163.out⟩, ⟨by repeat (first | (with_reducible first | exact HB.out | apply below_alloc | apply pw_below_drewN | apply below_drew1 | refine below_set ?_ GE163.out) | exact HB.out)⟩⟩
               ·rw [if_neg c64] at H
                exact absurd H (by simp)
              ·rw [if_neg c63] at H
               exact absurd H (by simp)
             ·rw [if_neg c62] at H
              have c62b0 : decide (x61_3 < (l1.length : Int)) = false := decide_eq_false c62
              clear c62
              have H' := Aside0.mk H
              clear H
              go_wp2
              go_roundg k3
              case measure => have := HJ13.out; have := HK2.out; have := HK3.out; omega
              case rel => exact ⟨(wrap64 (x55_2 + 1)), (by first | rfl | (simp; done) | (simp [*]; done)), H', ⟨by have := HJ13.out; have := HK2.out; have := HK3.out; omega⟩, ⟨by (with_reducible repeat (first | apply Kd.V_alloc | apply Kd.V_drewN | apply Kd.V_drew)); exact HO_1.out⟩, ⟨by (with_reducible repeat (first | apply Kd.V_alloc | apply Kd.V_drewN | apply Kd.V_drew)); exact HO_53.out⟩, ⟨by (with_reducible repeat (first | refine blk_drewN ?_ _ | refine blk_drew ?_ | refine blk_alloc ?_ _)); exact BK163.out⟩, ⟨by repeat (first | (with_reducible first | exact HB.out | apply below_alloc | apply pw_below_drewN | apply below_drew1 | refine below_set ?_ GE163.out) | exact HB.out)⟩⟩
          ·rw [if_neg c61] at H
           exact absurd H (by simp)
         ·rw [if_neg c60] at H
          exact absurd H (by simp)
        ·rw [if_neg c59] at H
         have c59b0 : decide (x55_2 < (y176.length : Int)) = false := decide_eq_false c59
         clear c59
         obtain rfl := Option.some.inj H
         go_wp2
         go_ret
         exact ⟨by first | rfl | (simp [errW_none, errW_some] <;> rfl) | (simp [*, errW_none, errW_some] <;> rfl), by repeat (first | (with_reducible first | exact HB.out | apply below_alloc | apply pw_below_drewN | apply below_drew1 | refine below_set ?_ GE163.out) | exact HB.out)⟩
   ·rw [if_neg c13] at H
    exact absurd H (by simp)
  ·rw [if_neg c12] at H
   exact absurd H (by simp)

/-! ### bits_Mul32: function 33 -/
def bits_Mul32.f (a0 : Int) (a1 : Int) : Option (Int × Int) := some (((IntKind.u64.wrap ((IntKind.u64.wrap (a0)) * (IntKind.u64.wrap (a1)))) / 4294967296) % 4294967296, (IntKind.u64.wrap ((IntKind.u64.wrap (a0)) * (IntKind.u64.wrap (a1)))) % 4294967296)
set_option maxHeartbeats 8000000 in
set_option maxRecDepth 100000 in
theorem bits_Mul32.calls (a0 : Int) (a1 : Int) (r1 : Int) (r2 : Int) (w : World) (h : bits_Mul32.f a0 a1 = some (r1, r2)) :
    Calls Tryd.prog 33 #[.int .u32 a0, .int .u32 a1] w fun e w' => e = .returned (.tuple #[.int .u32 r1, .int .u32 r2]) ∧ Drawn0 w w' := by
  have H : (some (((IntKind.u64.wrap ((IntKind.u64.wrap (a0)) * (IntKind.u64.wrap (a1)))) / 4294967296) % 4294967296, (IntKind.u64.wrap ((IntKind.u64.wrap (a0)) * (IntKind.u64.wrap (a1)))) % 4294967296)) = some (r1, r2) := h
  clear h
  simp only [Option.some.injEq, Prod.mk.injEq] at H
  obtain ⟨rfl, rfl⟩ := H
  go_enter Tryd.func33, Tryd.ntmps33
  go_wp2
  go_ret2
  exact ⟨by first | rfl | (simp; done) | (simp [*]; done), by repeat (first | exact Drawn0.refl _ | apply Drawn0.step)⟩

/-! ### bits_Mul64: function 34 -/
def bits_Mul64.f (a0 : Int) (a1 : Int) : Option (Int × Int) := some (IntKind.u64.wrap ((IntKind.u64.wrap ((IntKind.u64.wrap ((a0 / 4294967296) * (a1 / 4294967296))) + ((IntKind.u64.wrap ((IntKind.u64.wrap ((a0 / 4294967296) * (Go.bits .and .u64 a1 4294967295))) + ((IntKind.u64.wrap ((Go.bits .and .u64 a0 4294967295) * (Go.bits .and .u64 a1 4294967295))) / 4294967296))) / 4294967296))) + ((IntKind.u64.wrap ((Go.bits .and .u64 (IntKind.u64.wrap ((IntKind.u64.wrap ((a0 / 4294967296) * (Go.bits .and .u64 a1 4294967295))) + ((IntKind.u64.wrap ((Go.bits .and .u64 a0 4294967295) * (Go.bits .and .u64 a1 4294967295))) / 4294967296))) 4294967295) + (IntKind.u64.wrap ((Go.bits .and .u64 a0 4294967295) * (a1 / 4294967296))))) / 4294967296)), IntKind.u64.wrap (a0 * a1))
set_option maxHeartbeats 8000000 in
set_option maxRecDepth 100000 in
theorem bits_Mul64.calls (a0 : Int) (a1 : Int) (r1 : Int) (r2 : Int) (w : World) (h : bits_Mul64.f a0 a1 = some (r1, r2)) :
    Calls Tryd.prog 34 #[.int .u64 a0, .int .u64 a1] w fun e w' => e = .returned (.tuple #[.int .u64 r1, .int .u64 r2]) ∧ Drawn0 w w' := by
  have H : (some (IntKind.u64.wrap ((IntKind.u64.wrap ((IntKind.u64.wrap ((a0 / 4294967296) * (a1 / 4294967296))) + ((IntKind.u64.wrap ((IntKind.u64.wrap ((a0 / 4294967296) * (Go.bits .and .u64 a1 4294967295))) + ((IntKind.u64.wrap ((Go.bits .and .u64 a0 4294967295) * (Go.bits .and .u64 a1 4294967295))) / 4294967296))) / 4294967296))) + ((IntKind.u64.wrap ((Go.bits .and .u64 (IntKind.u64.wrap ((IntKind.u64.wrap ((a0 / 4294967296) * (Go.bits .and .u64 a1 4294967295))) + ((IntKind.u64.wrap ((Go.bits .and .u64 a0 4294967295) * (Go.bits .and .u64 a1 4294967295))) / 4294967296))) 4294967295) + (IntKind.u64.wrap ((Go.bits .and .u64 a0 4294967295) * (a1 / 4294967296))))) / 4294967296)), IntKind.u64.wrap (a0 * a1))) = some (r1, r2) := h
  clear h
  simp only [Option.some.injEq, Prod.mk.injEq] at H
  obtain ⟨rfl, rfl⟩ := H
  go_enter Tryd.func34, Tryd.ntmps34
  go_wp2
  go_ret2
  exact ⟨by first | rfl | (simp; done) | (simp [*]; done), by repeat (first | exact Drawn0.refl _ | apply Drawn0.step)⟩

/-! ### bits_Mul: function 30 -/
def bits_Mul.f (a0 : Int) (a1 : Int) : Option (Int × Int) := (bits_Mul64.f a0 a1).bind fun bt189 => (some (bt189.1, bt189.2))
set_option maxHeartbeats 8000000 in
set_option maxRecDepth 100000 in
theorem bits_Mul.calls (a0 : Int) (a1 : Int) (r1 : Int) (r2 : Int) (w : World) (h : bits_Mul.f a0 a1 = some (r1, r2)) :
    Calls Tryd.prog 30 #[.int .u64 a0, .int .u64 a1] w fun e w' => e = .returned (.tuple #[.int .u64 r1, .int .u64 r2]) ∧ Drawn0 w w' := by
  have H : ((bits_Mul64.f a0 a1).bind fun bt189 => (some (bt189.1, bt189.2))) = some (r1, r2) := h
  clear h
  replace H := Option.bind_eq_some_iff.mp H
  obtain ⟨⟨t189, t190⟩, A30, H⟩ := H
  replace H : (some (t189, t190)) = some (r1, r2) := H
  have A3 := Aside0.mk A30
  clear A30
  simp only [Option.some.injEq, Prod.mk.injEq] at H
  obtain ⟨rfl, rfl⟩ := H
  go_enter Tryd.func30, Tryd.ntmps30
  go_wp2_with (first | ((with_reducible refine gate_callee (f := 34) rfl ?_); refine goesL_ (some 25) rfl rfl Tryd.func34 (by kernel_rfl) rfl #[.int .u64 a0, .int .u64 a1] rfl (by (try simp only [List.map_toArray, List.map_cons, List.map_nil]); first | done | rfl | (simp only [List.length_drop, List.length_take]; rfl)) ?_; (with_reducible refine (bits_Mul64.calls a0 a1 t189 t190 _ A3.out).mono ?_); rintro e w' ⟨rfl, ⟨nd, rfl⟩⟩; refine ⟨_, rfl, ?_⟩))
  go_ret2
  exact ⟨by first | rfl | (simp; done) | (simp [*]; done), by repeat (first | exact Drawn0.refl _ | apply Drawn0.step)⟩

end Go.Proofs.YtmdpjmcleckedaaDoor.Print
