/- Lists of whole numbers: made, marked, and read again; loops that stop at a bad place: no program in sight. -/
import Derived.Test.YtmdpjmcleckedaaDoorM4
import Derived.Test.YtmdpjmcleckedaaDoorM3
namespace Go.Proofs.YtmdpjmcleckedaaDoor.M
open Go.RowKit Go.Proofs.YtmdpjmcleckedaaDoorW.PrintWords Go.Proofs.YtmdpjmcleckedaaDoorW.PrintLast Go.Proofs.YtmdpjmcleckedaaDoorW.PrintMore
set_option linter.unusedVariables false
set_option linter.unusedSimpArgs false

/-- a, a + 1, .. -/
def upTo (a : Int) (n : Nat) : List Int := (List.range n).map (fun j : Nat => a + (j : Int))
theorem upTo_length (a : Int) (n : Nat) : (upTo a n).length = n := by simp [upTo]
theorem upTo_rd {a : Int} {n i : Nat} (h : i < n) : rd (upTo a n) (i : Int) = a + (i : Int) := by simp [rd, upTo, List.getD_eq_getElem?_getD, h]
theorem upTo_set {a : Int} {l : List Int} {i : Nat} (h : i < l.length) : (upTo a i ++ l.drop i).set i (a + (i : Int)) = upTo a (i + 1) ++ l.drop (i + 1) := by
  apply List.ext_getElem?
  intro j
  rw [List.getElem?_set]
  by_cases hj : i = j
  · subst hj
    rw [if_pos rfl, if_pos (by simp [upTo_length]; omega), List.getElem?_append_left (by rw [upTo_length]; omega)]
    simp [upTo]
  · rw [if_neg hj]
    by_cases h2 : j < i
    · rw [List.getElem?_append_left (by rw [upTo_length]; omega), List.getElem?_append_left (by rw [upTo_length]; omega)]
      simp [upTo, h2, show j < i + 1 by omega]
    · rw [List.getElem?_append_right (by rw [upTo_length]; omega), List.getElem?_append_right (by rw [upTo_length]; omega), upTo_length, upTo_length, List.getElem?_drop, List.getElem?_drop]
      congr 1; omega
theorem upTo_zero (a : Int) (l : List Int) : upTo a 0 ++ l.drop 0 = l := by simp [upTo]
theorem upTo_all (a : Int) (l : List Int) : upTo a l.length ++ l.drop l.length = upTo a l.length := by simp
theorem upTo_len {a : Int} {l : List Int} {i : Nat} (h : i ≤ l.length) : (upTo a i ++ l.drop i).length = l.length := by simp [upTo_length]; omega

theorem Ev.since {α : Type} {g : Nat → Option α} {r : α} (K : Nat) (h : ∀ k, K ≤ k → g k = some r) : Ev g r := ⟨K, h⟩
/-- a loop that ends with r at a bad place, of which there is one -/
theorem Ev.bad {α : Type} (F : Nat → Nat → Option α) (N : Nat) (r : α) (ok : Nat → Bool)
    (hs : ∀ i, i < N → ok i = true → Ev (fun k => F k (i + 1)) r → Ev (fun k => F k i) r) (hb : ∀ i, i < N → ok i = false → Ev (fun k => F k i) r) :
    ∀ d i, i + d = N → (∃ j, i ≤ j ∧ j < N ∧ ok j = false) → Ev (fun k => F k i) r := by
  intro d
  induction d with
  | zero => intro i hi ⟨j, h1, h2, _⟩; omega
  | succ d ih =>
    intro i hi ⟨j, h1, h2, h3⟩
    cases e : ok i with
    | false => exact hb i (by omega) e
    | true =>
      refine hs i (by omega) e (ih (i + 1) (by omega) ⟨j, ?_, h2, h3⟩)
      by_cases h : j = i
      · subst h; rw [h3] at e; cases e
      · omega
theorem all_false_at {l : List Int} {p : Int → Bool} (h : l.all p = false) : ∃ j, j < l.length ∧ p (l.getD j 0) = false := by
  rw [List.all_eq_false] at h
  obtain ⟨x, hx, hp⟩ := h
  obtain ⟨j, hj, rfl⟩ := List.getElem_of_mem hx
  exact ⟨j, hj, by simpa [List.getD_eq_getElem?_getD, hj] using hp⟩
theorem all_true_at {l : List Int} {p : Int → Bool} (h : l.all p = true) {j : Nat} (hj : j < l.length) : p (l.getD j 0) = true := by
  rw [List.all_eq_true] at h
  have := h _ (List.getElem_mem hj)
  simpa [List.getD_eq_getElem?_getD, hj] using this
theorem rd_nat (l : List Int) (i : Nat) : rd l (i : Int) = l.getD i 0 := by simp [rd]
theorem mn_nat (a b : Nat) : mn (a : Int) (b : Int) = ((min a b : Nat) : Int) := by unfold mn; split <;> omega
theorem mx_nat (a b : Nat) : mx (a : Int) (b : Int) = ((max a b : Nat) : Int) := by unfold mx; split <;> omega
/-- a list of natural numbers as whole numbers -/
def ints (l : List Nat) : List Int := l.map (fun x : Nat => (x : Int))
theorem ints_length (l : List Nat) : (ints l).length = l.length := by simp [ints]
theorem ints_getD (l : List Nat) (j : Nat) : (ints l).getD j 0 = ((l.getD j 0 : Nat) : Int) := by
  simp [ints, List.getD_eq_getElem?_getD]
  cases l[j]? <;> rfl
theorem rd_ints (l : List Nat) (j : Nat) : rd (ints l) (j : Int) = ((l.getD j 0 : Nat) : Int) := by rw [rd_nat, ints_getD]
theorem ints_append (l : List Nat) (x : Nat) : ints (l ++ [x]) = ints l ++ [(x : Int)] := by simp [ints]
theorem take_more {α : Type} (l : List α) (d : α) {j : Nat} (h : j < l.length) : l.take (j + 1) = l.take j ++ [l.getD j d] := by
  rw [List.take_add_one]; simp [List.getD_eq_getElem?_getD, h]

/-- is x an input of n variables -/
def inR (n : Nat) (x : Int) : Bool := decide (0 ≤ x ∧ x < ((2 ^ n : Nat) : Int))
theorem inR_nat {n : Nat} {x : Int} (h : inR n x = true) : ∃ y : Nat, x = (y : Int) ∧ y < 2 ^ n := by
  have := of_decide_eq_true h
  exact ⟨x.toNat, by omega, by omega⟩
theorem inR_mk {n y : Nat} (h : y < 2 ^ n) : inR n (y : Int) = true := decide_eq_true (by omega)
theorem invB_open {a : Int} {l : List Int} (h : invB a l = true) : ∃ n : Nat, a = (n : Int) ∧ n ≤ 5 ∧ l.length = n ∧ (∀ j, j < n → cols l j < 2 ^ n ∧ l.getD j 0 = ((cols l j : Nat) : Int)) ∧ Indep (cols l) n := by
  unfold invB at h
  rw [Bool.and_eq_true, Bool.and_eq_true, Bool.and_eq_true] at h
  obtain ⟨h1, h2, h3, h4⟩ := h
  have h1' := of_decide_eq_true h1
  obtain ⟨n, rfl⟩ := nat_of h1'.1
  have h2' := of_decide_eq_true h2
  rw [Int.toNat_natCast] at h3 h4
  exact ⟨n, rfl, by omega, by omega, fun j hj => cols_of h3 (by omega), indB_iff.mp h4⟩
theorem cols32 {l : List Int} {n : Nat} (hn : n ≤ 5) (h : ∀ j, j < n → cols l j < 2 ^ n ∧ l.getD j 0 = ((cols l j : Nat) : Int)) : ∀ j, j < n → cols l j < 32 ∧ l.getD j 0 = ((cols l j : Nat) : Int) := fun j hj => ⟨by have := (h j hj).1; have := pow_le_5 hn; omega, (h j hj).2⟩
/-- the image of an input, moved by s -/
def mapI (a : Int) (l : List Int) (s x : Int) : Int := if (invB a l && (inR a.toNat s && inR a.toNat x)) = true then ((img (cols l) x.toNat a.toNat ^^^ s.toNat : Nat) : Int) else -1
/-- one map behind another -/
def compL (a : Int) (l1 l2 : List Int) : List Int × Bool := if (invB a l1 && invB a l2) = true then (l2.map (fun c => ((img (cols l1) c.toNat a.toNat : Nat) : Int)), true) else ([], false)
theorem range_set {n i v : Nat} {f f' : Nat → Nat} (hi : i < n) (h1 : f' i = v) (h2 : ∀ j, j < n → j ≠ i → f' j = f j) : (ints ((List.range n).map f)).set i (v : Int) = ints ((List.range n).map f') := by
  apply List.ext_getElem?
  intro j
  rw [List.getElem?_set]
  by_cases hj : i = j
  · subst hj
    rw [if_pos rfl, if_pos (by simp [ints]; exact hi)]
    simp [ints, hi, h1]
  · rw [if_neg hj]
    by_cases h3 : j < n
    · simp [ints, h3, h2 j h3 (fun e => hj e.symm)]
    · simp [ints, h3]
theorem range_congr {n : Nat} {f f' : Nat → Nat} (h : ∀ j, j < n → f' j = f j) : ints ((List.range n).map f) = ints ((List.range n).map f') := by
  congr 1
  exact List.map_congr_left (fun j hj => (h j (List.mem_range.mp hj)).symm)
theorem range_zero {n : Nat} {f : Nat → Nat} (h : ∀ j, j < n → f j = 0) : ints ((List.range n).map f) = List.replicate n 0 := by
  rw [range_congr (f' := fun _ => 0) (fun j hj => (h j hj).symm)]
  simp [ints, List.map_const']
theorem range_snoc {n : Nat} (p : Nat → Nat) : ints ((List.range n).map p) ++ [((p n : Nat) : Int)] = ints ((List.range (n + 1)).map p) := by rw [List.range_succ]; simp [ints]
theorem ints_range_length (n : Nat) (p : Nat → Nat) : (ints ((List.range n).map p)).length = n := by simp [ints]

end Go.Proofs.YtmdpjmcleckedaaDoor.M
