/- Spectra: sums of signs; lists by index: no program in sight. -/
import Derived.Test.YtpnbeonpicekhaaM5
namespace Go.Proofs.Ytpnbeonpicekhaa.M
open Go.RowKit Go.Proofs.YtpnbeonpicekhaaW.PrintWords Go.Proofs.YtpnbeonpicekhaaW.PrintLast Go.Proofs.YtpnbeonpicekhaaW.PrintMore
set_option linter.unusedVariables false
set_option linter.unusedSimpArgs false

def sumZ (g : Nat → Int) : Nat → Int
  | 0 => 0
  | m + 1 => sumZ g m + g m
theorem sumZ_bound {g : Nat → Int} (h : ∀ i, -1 ≤ g i ∧ g i ≤ 1) : ∀ m : Nat, -(m : Int) ≤ sumZ g m ∧ sumZ g m ≤ (m : Int)
  | 0 => by simp [sumZ]
  | m + 1 => by have := sumZ_bound h m; have := h m; rw [sumZ]; omega
/-- -1 for an odd number -/
def sgn (m : Nat) : Int := if m % 2 = 1 then -1 else 1
theorem sgn_bound (m : Nat) : -1 ≤ sgn m ∧ sgn m ≤ 1 := by unfold sgn; split <;> omega
theorem sgn_mul (a b : Nat) : sgn a * sgn b = sgn (a + b) := by
  unfold sgn
  by_cases h1 : a % 2 = 1 <;> by_cases h2 : b % 2 = 1
  · rw [if_pos h1, if_pos h2, if_neg (by omega)]; rfl
  · rw [if_pos h1, if_neg h2, if_pos (by omega)]; rfl
  · rw [if_neg h1, if_pos h2, if_pos (by omega)]; rfl
  · rw [if_neg h1, if_neg h2, if_neg (by omega)]; rfl
/-- what an input adds to the spectrum at u -/
def spT (v u x : Nat) : Int := sgn ((v.testBit x).toNat + pc (u &&& x))
/-- the spectrum at u -/
def spZ (n v u : Nat) : Int := sumZ (spT v u) (2 ^ n)
theorem spZ_bound {n : Nat} (hn : n ≤ 5) (v u : Nat) : -((2 ^ n : Nat) : Int) ≤ spZ n v u ∧ spZ n v u ≤ ((2 ^ n : Nat) : Int) := sumZ_bound (fun i => sgn_bound _) _
theorem sum_bound (v u m : Nat) : -(m : Int) ≤ sumZ (spT v u) m ∧ sumZ (spT v u) m ≤ (m : Int) := sumZ_bound (fun i => sgn_bound _) _
theorem pc_bit (b : Bool) : pc b.toNat = b.toNat := by cases b <;> decide
/-- a list of whole numbers by index -/
def listZ (n : Nat) (f : Nat → Int) : List Int := (List.range n).map f
theorem listZ_length (n : Nat) (f : Nat → Int) : (listZ n f).length = n := by simp [listZ]
theorem listZ_rd {n i : Nat} {f : Nat → Int} (h : i < n) : rd (listZ n f) (i : Int) = f i := by simp [rd, listZ, List.getD_eq_getElem?_getD, h]
theorem listZ_snoc (n : Nat) (f : Nat → Int) : listZ n f ++ [f n] = listZ (n + 1) f := by unfold listZ; rw [List.range_succ]; simp
theorem listZ_set {n i : Nat} {v : Int} {f f' : Nat → Int} (hi : i < n) (h1 : f' i = v) (h2 : ∀ j, j < n → j ≠ i → f' j = f j) : (listZ n f).set i v = listZ n f' := by
  apply List.ext_getElem?
  intro j
  rw [List.getElem?_set]
  by_cases hj : i = j
  · subst hj
    rw [if_pos rfl, if_pos (by rw [listZ_length]; exact hi)]
    simp [listZ, hi, h1]
  · rw [if_neg hj]
    by_cases h3 : j < n
    · simp [listZ, h3, h2 j h3 (fun e => hj e.symm)]
    · simp [listZ, h3]
theorem listZ_congr {n : Nat} {f f' : Nat → Int} (h : ∀ j, j < n → f' j = f j) : listZ n f = listZ n f' := List.map_congr_left (fun j hj => (h j (List.mem_range.mp hj)).symm)
theorem listZ_zero {n : Nat} {f : Nat → Int} (h : ∀ j, j < n → f j = 0) : listZ n f = List.replicate n 0 := by
  rw [listZ_congr (f' := fun _ => 0) (fun j hj => (h j hj).symm)]
  simp [listZ, List.map_const']
/-- how many of the first i numbers have the size j -/
def sizesN (w : Nat → Int) (i j : Nat) : Nat := cnt (fun x => decide ((w x).natAbs = j)) i
theorem mx_abs {a : Int} (h1 : -1000 ≤ a) (h2 : a ≤ 1000) : mx a (wrap64 (-a)) = ((a.natAbs : Nat) : Int) := by
  rw [w64 (by omega) (by omega)]; unfold mx; split <;> omega
/-- the profile: one step -/
theorem prof_step {N i : Nat} {w : Nat → Int} (h : (w i).natAbs < N) : (listZ N (fun j => ((sizesN w i j : Nat) : Int))).set (w i).natAbs (((sizesN w i (w i).natAbs : Nat) : Int) + 1) = listZ N (fun j => ((sizesN w (i + 1) j : Nat) : Int)) := by
  refine listZ_set h ?_ (fun j hj hne => ?_)
  · show ((sizesN w (i + 1) (w i).natAbs : Nat) : Int) = _
    unfold sizesN; rw [cnt, decide_eq_true rfl]; simp
  · show ((sizesN w (i + 1) j : Nat) : Int) = _
    unfold sizesN; rw [cnt, decide_eq_false (fun e => hne e.symm)]; rfl
theorem sizesN_le (w : Nat → Int) (i j : Nat) : sizesN w i j ≤ i := cnt_le _ _

end Go.Proofs.Ytpnbeonpicekhaa.M
