/- Functions of the given program as plain Lean functions, with proofs that their calls compute them, or lemmas on these. Laid by a program of this repo for the seat Ythkdjccjcpneiaa; Lean checks it. -/
import Derived.Test.YthkdjccjcpneiaaKExactLeastBits0
import Derived.Test.YthkdjccjcpneiaaKExactLeastBits1
import Derived.Test.YthkdjccjcpneiaaKExactLeastBits2
import Derived.Test.YthkdjccjcpneiaaKExactLeastBits6
import Derived.Test.YthkdjccjcpneiaaKExactLeastBits7
import Derived.Test.YthkdjccjcpneiaaM0
import Derived.Test.YthkdjccjcpneiaaM20
import Derived.Test.YthkdjccjcpneiaaM5
namespace Go.Proofs.Ythkdjccjcpneiaa.Print
open Go.RowKit Go.Proofs.YthkdjccjcpneiaaW.PrintWords Go.Proofs.YthkdjccjcpneiaaW.PrintLast Go.Proofs.YthkdjccjcpneiaaW.PrintMore
attribute [local go_sem] max2_int min2_int max_two min_two max_three min_three max_four min_four   -- for this text's walks alone
set_option linter.unusedVariables false
set_option linter.unusedSimpArgs false

/-! ### facts on spec_l1In -/
theorem spec_l1In.ev (a b c : Int) : spec_l1In.f a b c = some (decide (b ≤ a ∧ a ≤ c)) := by
  unfold spec_l1In.f
  by_cases h : b ≤ a
  · rw [if_pos h]; simp [h]
  · rw [if_neg h]; simp [h]

/-! ### facts on spec_IsTable -/
--IMPORT M0
open Go.Proofs.Ythkdjccjcpneiaa.M in
theorem spec_IsTable.ev (a b : Int) : spec_IsTable.f a b = some (isT a b) := by
  unfold spec_IsTable.f isT
  rw [spec_l1In.ev]
  by_cases h : 0 ≤ a ∧ a ≤ 5
  · obtain ⟨n, rfl⟩ := nat_of h.1
    have hn : n ≤ 5 := by omega
    simp only [Option.bind_some, h, and_self, decide_true, if_true]
    rw [full_word hn, spec_l1In.ev]
    simp only [Option.bind_some, Int.toNat_natCast, h, true_and]
    congr 1
    apply decide_eq_decide.mpr
    omega
  · have h' : ¬ (0 ≤ a ∧ a ≤ 5 ∧ 0 ≤ b ∧ b < ((2 ^ 2 ^ a.toNat : Nat) : Int)) := fun e => h ⟨e.1, e.2.1⟩
    simp only [h, h', decide_false, Option.bind_some, Bool.false_eq_true, if_false]

/-! ### facts on spec_l21Fine -/
--IMPORT M20
/-- a table, at most two variables on either side -/
def spec_l21Fine.ok (a b k : Int) : Bool := Go.Proofs.Ythkdjccjcpneiaa.M.isT a b && decide (0 ≤ k ∧ k ≤ 2) && decide (0 ≤ a - k ∧ a - k ≤ 2)
open Go.Proofs.Ythkdjccjcpneiaa.M in
theorem spec_l21Fine.ev (a b k : Int) : spec_l21Fine.f a b k = some (spec_l21Fine.ok a b k) := by
  unfold spec_l21Fine.f spec_l21Fine.ok
  rw [spec_IsTable.ev, Option.bind_some]
  cases ht : isT a b with
  | false => rfl
  | true =>
    obtain ⟨n, v, rfl, rfl, hn, hv⟩ := isT_nat ht
    rw [if_pos rfl, Bool.true_and, spec_l1In.ev, Option.bind_some]
    by_cases h : 0 ≤ k ∧ k ≤ 2
    · rw [decide_eq_true h, if_pos rfl, w64 (by omega) (by omega), spec_l1In.ev, Option.bind_some, Bool.true_and]
    · rw [decide_eq_false h]; rfl
open Go.Proofs.Ythkdjccjcpneiaa.M in
theorem spec_l21Fine.nat {a b k : Int} (h : spec_l21Fine.ok a b k = true) : ∃ n v kk : Nat, a = (n : Int) ∧ b = (v : Int) ∧ k = (kk : Int) ∧ Sp n kk ∧ v < 2 ^ 2 ^ n := by
  unfold spec_l21Fine.ok at h
  rw [Bool.and_eq_true, Bool.and_eq_true] at h
  obtain ⟨n, v, rfl, rfl, hn, hv⟩ := isT_nat h.1.1
  have h1 := of_decide_eq_true h.1.2
  have h2 := of_decide_eq_true h.2
  exact ⟨n, v, k.toNat, rfl, rfl, by omega, ⟨by omega, by omega, by omega, by omega⟩, hv⟩

/-! ### facts on spec_MatrixOf -/
--IMPORT M20
open Go.Proofs.Ythkdjccjcpneiaa.M in
/-- the values of a row -/
def spec_MatrixOf.row (n k v i : Nat) : Nat := prefW (fun j => v.testBit (i + j * 2 ^ k)) (2 ^ (n - k))
/-- the rows -/
def spec_MatrixOf.mat (n k v : Nat) : List Int := (List.range (2 ^ k)).map fun i => ((spec_MatrixOf.row n k v i : Nat) : Int)
open Go.Proofs.Ythkdjccjcpneiaa.M in
theorem spec_MatrixOf.or_add : ∀ i, i < 4 → ∀ j, j < 4 → ∀ k, k < 3 → i < 2 ^ k → i ||| j * 2 ^ k = i + j * 2 ^ k :=
  allB_dec3 (P := fun i j k => i < 2 ^ k → i ||| j * 2 ^ k = i + j * 2 ^ k) (by decide +kernel)
open Go.Proofs.Ythkdjccjcpneiaa.M in
theorem spec_MatrixOf.ev {n k v : Nat} (hs : Sp n k) (hv : v < 2 ^ 2 ^ n) : Ev (fun q => spec_MatrixOf.f q (n : Int) (v : Int) (k : Int)) (spec_MatrixOf.mat n k v, true) := by
  have hn := hs.hn
  have hk := hs.hk
  have hkn := hs.hkn
  have hl := hs.hl
  have hT := isT_mk (n := n) (v := v) (by omega) hv
  have hv63 : v < 2 ^ 63 := Nat.lt_trans hv (full_p63 (by omega))
  have hpk : 2 ^ k ≤ 4 := Nat.pow_le_pow_right (n := 2) (by decide) hk
  have hpl : 2 ^ (n - k) ≤ 4 := Nat.pow_le_pow_right (n := 2) (by decide) hl
  have enk : wrap64 ((n : Int) - (k : Int)) = ((n - k : Nat) : Int) := by rw [w64 (by omega) (by omega)]; omega
  have loop : Ev (fun q => spec_MatrixOf.l0 q (k : Int) ([] : List Int) 0 (n : Int) (v : Int)) (spec_MatrixOf.mat n k v, true) := by
    refine Ev.count (fun q i => spec_MatrixOf.l0 q (k : Int) ((List.range i).map fun i => ((spec_MatrixOf.row n k v i : Nat) : Int)) (i : Int) (n : Int) (v : Int)) (2 ^ k) (spec_MatrixOf.mat n k v, true) (fun i hi hnext => ?_) (Ev.end (fun q => ?_)) (2 ^ k) 0 (by omega)
    · have inner := Ev.count (fun q j => spec_MatrixOf.l1 q (k : Int) ((List.range i).map fun i => ((spec_MatrixOf.row n k v i : Nat) : Int)) (i : Int) ((prefW (fun j => v.testBit (i + j * 2 ^ k)) j : Nat) : Int) (j : Int) (n : Int) (v : Int)) (2 ^ (n - k)) (spec_MatrixOf.mat n k v, true) (fun j hj hn' => by
        have ho := spec_MatrixOf.or_add i (by omega) j (by omega) k (by omega) hi
        have hle : j * 2 ^ k ≤ 12 := Nat.le_trans (Nat.mul_le_mul (show j ≤ 3 by omega) hpk) (by decide)
        have es : shl .i64 (j : Int) (k : Int) = ((j * 2 ^ k : Nat) : Int) := shl_nat (by omega) (by omega)
        have eo : Go.bits .or .i64 (i : Int) ((j * 2 ^ k : Nat) : Int) = ((i + j * 2 ^ k : Nat) : Int) := by rw [or_nat (by omega) (by omega), ho]
        have eb := bit_nat (a := v) (n := i + j * 2 ^ k) hv63 (by omega)
        have ep := prefW_step (g := fun j => v.testBit (i + j * 2 ^ k)) (x := j) (by omega)
        refine Ev.step (fun q => ?_) hn'
        simp only [spec_MatrixOf.l1]
        rw [enk, if_pos (Int.natCast_nonneg _), shl_one (by omega), if_pos (show (j : Int) < ((2 ^ (n - k) : Nat) : Int) by omega), if_pos (Int.natCast_nonneg k), es, eo, if_pos (Int.natCast_nonneg _), if_pos (Int.natCast_nonneg j), eb, ep, up1 (by omega)]) (Ev.step (f := fun q => spec_MatrixOf.l0 q (k : Int) ((List.range (i + 1)).map fun i => ((spec_MatrixOf.row n k v i : Nat) : Int)) ((i + 1 : Nat) : Int) (n : Int) (v : Int)) (fun q => by
          simp only [spec_MatrixOf.l1]
          rw [enk, if_pos (Int.natCast_nonneg _), shl_one (by omega), if_neg (by omega), if_pos (by rw [List.length_map, List.length_range]; omega), up1 (by omega), List.range_succ, List.map_append]
          rfl) hnext) (2 ^ (n - k)) 0 (by omega)
      refine Ev.step (fun q => ?_) inner
      simp only [spec_MatrixOf.l0]
      rw [if_pos (Int.natCast_nonneg k), shl_one (by omega), if_pos (by omega)]; rfl
    · simp only [spec_MatrixOf.l0]
      rw [if_pos (Int.natCast_nonneg k), shl_one (by omega), if_neg (by omega)]; rfl
  refine Ev.congr (f := fun q => spec_MatrixOf.j0 q (k : Int) ([] : List Int) false (n : Int) (v : Int)) (fun q => ?_) (Ev.step (fun q => ?_) loop)
  · unfold spec_MatrixOf.f
    rw [spec_IsTable.ev, hT]
    simp only [Option.bind_some]
    rw [if_pos trivial, spec_l1In.ev, decide_eq_true (show (0 : Int) ≤ (k : Int) ∧ (k : Int) ≤ (n : Int) by omega)]; rfl
  · simp only [spec_MatrixOf.j0]
    rw [if_neg (by decide)]

/-! ### facts on spec_l21One -/
--IMPORT M20
--IMPORT M5
open Go.Proofs.Ythkdjccjcpneiaa.M in
/-- what is left of a row -/
def spec_l21One.rowL (k v b i : Nat) (j d : Nat) : List Bool := ((List.range' j d).filter b.testBit).map fun j => v.testBit (i + j * 2 ^ k)
/-- what is left of the rows -/
def spec_l21One.restL (n k v a b : Nat) (i d : Nat) : List Bool := ((List.range' i d).filter a.testBit).flatMap fun i => spec_l21One.rowL k v b i 0 (2 ^ (n - k))
open Go.Proofs.Ythkdjccjcpneiaa.M in
theorem spec_l21One.high {b j : Nat} (h : b / 2 ^ j = 0) : ∀ (d i : Nat), j ≤ i → (List.range' i d).filter b.testBit = []
  | 0, _, _ => rfl
  | d + 1, i, hi => by
    rw [List.range'_succ, List.filter_cons, spec_l21One.high h d (i + 1) (by omega)]
    have hb : b < 2 ^ j := by
      rcases Nat.lt_or_ge b (2 ^ j) with h1 | h1
      · exact h1
      · have := Nat.div_pos h1 (Nat.two_pow_pos j); omega
    rw [Nat.testBit_lt_two_pow (Nat.lt_of_lt_of_le hb (Nat.pow_le_pow_right (by decide) hi))]
    rfl
open Go.Proofs.Ythkdjccjcpneiaa.M in
theorem spec_l21One.inner {n k v a b i : Nat} (hs : Sp n k) (hi : i < 2 ^ k) (hb : b < 16) (hb2 : b < 2 ^ 2 ^ (n - k)) (rest : List Bool)
    (hn : ∀ c : Int, Ev (fun q => spec_l21One.l0 q (spec_MatrixOf.mat n k v) (a : Int) (b : Int) c ((i + 1 : Nat) : Int)) (cubeGo c rest)) : ∀ (d j : Nat) (c : Int), j + d = 2 ^ (n - k) → Ev (fun q => spec_l21One.l1 q (spec_MatrixOf.mat n k v) (a : Int) (b : Int) c (i : Int) (j : Int)) (cubeGo c (spec_l21One.rowL k v b i j d ++ rest)) := by
  have hk := hs.hk
  have hl := hs.hl
  have hpk : 2 ^ k ≤ 4 := Nat.pow_le_pow_right (n := 2) (by decide) hk
  have hpl : 2 ^ (n - k) ≤ 4 := Nat.pow_le_pow_right (n := 2) (by decide) hl
  have hlen : (spec_MatrixOf.mat n k v).length = 2 ^ k := by unfold spec_MatrixOf.mat; simp
  intro d
  induction d with
  | zero =>
    intro j c hj
    have hz : b / 2 ^ j = 0 := Nat.div_eq_of_lt (by have e : j = 2 ^ (n - k) := by omega
                                                    rw [e]; exact hb2)
    refine Ev.step (fun q => ?_) (hn c)
    simp only [spec_l21One.l1]
    rw [if_pos (Int.natCast_nonneg j), shr_nat (by omega), hz, if_neg (by decide), up1 (by omega)]
  | succ d ih =>
    intro j c hj
    by_cases hz : b / 2 ^ j = 0
    · have e : spec_l21One.rowL k v b i j (d + 1) = [] := by unfold spec_l21One.rowL; rw [spec_l21One.high hz _ _ (Nat.le_refl _)]; rfl
      rw [e]
      refine Ev.step (fun q => ?_) (hn c)
      simp only [spec_l21One.l1]
      rw [if_pos (Int.natCast_nonneg j), shr_nat (by omega), hz, if_neg (by decide), up1 (by omega)]
    · have eb := bit_nat (a := b) (n := j) (by omega) (by omega)
      have e2 : shr .i64 (b : Int) (j : Int) > 0 := by rw [shr_nat (by omega)]; exact_mod_cast Nat.pos_of_ne_zero hz
      cases hbt : b.testBit j with
      | false =>
        have e : spec_l21One.rowL k v b i j (d + 1) = spec_l21One.rowL k v b i (j + 1) d := by unfold spec_l21One.rowL; rw [List.range'_succ, List.filter_cons, hbt]; rfl
        rw [e]
        refine Ev.step (fun q => ?_) (ih (j + 1) c (by omega))
        simp only [spec_l21One.l1]
        rw [if_pos (Int.natCast_nonneg j), if_pos e2, eb, hbt, if_pos (by decide), up1 (by omega)]
      | true =>
        have e : spec_l21One.rowL k v b i j (d + 1) = v.testBit (i + j * 2 ^ k) :: spec_l21One.rowL k v b i (j + 1) d := by unfold spec_l21One.rowL; rw [List.range'_succ, List.filter_cons, hbt]; rfl
        have em : rd (spec_MatrixOf.mat n k v) (i : Int) = ((spec_MatrixOf.row n k v i : Nat) : Int) := by
          rw [rd_nat]
          unfold spec_MatrixOf.mat
          rw [List.getD_eq_getElem?_getD, List.getElem?_map, List.getElem?_range hi]; rfl
        have hr63 : spec_MatrixOf.row n k v i < 2 ^ 63 := Nat.lt_of_lt_of_le (prefW_lt _ _) (Nat.pow_le_pow_right (by decide) (by omega))
        have ev : Go.bits .and .i64 (shr .i64 (rd (spec_MatrixOf.mat n k v) (i : Int)) (j : Int)) 1 = (((v.testBit (i + j * 2 ^ k)).toNat : Nat) : Int) := by
          rw [em, bit_nat hr63 (by omega)]
          unfold spec_MatrixOf.row
          rw [testBit_prefW, decide_eq_true (show j < 2 ^ (n - k) by omega), Bool.true_and]
        rw [e, List.cons_append, cubeGo]
        have ih := fun c => ih (j + 1) c (by omega)
        by_cases hc : c ≥ 0
        · rw [if_pos hc]
          by_cases hcb : c = (((v.testBit (i + j * 2 ^ k)).toNat : Nat) : Int)
          · rw [if_pos hcb]
            refine Ev.step (fun q => ?_) (ih _)
            simp only [spec_l21One.l1]
            rw [if_pos (Int.natCast_nonneg j), if_pos e2, eb, hbt, if_neg (by decide), if_pos (Int.natCast_nonneg i), if_pos (by rw [hlen]; omega), if_pos hc, ev, if_pos hcb.symm, up1 (by omega)]
          · rw [if_neg hcb]
            refine Ev.end (fun q => ?_)
            simp only [spec_l21One.l1]
            rw [if_pos (Int.natCast_nonneg j), if_pos e2, eb, hbt, if_neg (by decide), if_pos (Int.natCast_nonneg i), if_pos (by rw [hlen]; omega), if_pos hc, ev, if_neg (fun h => hcb h.symm)]
        · rw [if_neg hc]
          refine Ev.step (fun q => ?_) (ih _)
          simp only [spec_l21One.l1]
          rw [if_pos (Int.natCast_nonneg j), if_pos e2, eb, hbt, if_neg (by decide), if_pos (Int.natCast_nonneg i), if_pos (by rw [hlen]; omega), if_neg hc, ev, up1 (by omega)]
open Go.Proofs.Ythkdjccjcpneiaa.M in
theorem spec_l21One.outer {n k v a b : Nat} (hs : Sp n k) (ha : a < 16) (hb : b < 16) (hb2 : b < 2 ^ 2 ^ (n - k)) : ∀ (d i : Nat) (c : Int), i + d = 2 ^ k → Ev (fun q => spec_l21One.l0 q (spec_MatrixOf.mat n k v) (a : Int) (b : Int) c (i : Int)) (cubeGo c (spec_l21One.restL n k v a b i d)) := by
  have hk := hs.hk
  have hpk : 2 ^ k ≤ 4 := Nat.pow_le_pow_right (n := 2) (by decide) hk
  have hlen : (spec_MatrixOf.mat n k v).length = 2 ^ k := by unfold spec_MatrixOf.mat; simp
  intro d
  induction d with
  | zero =>
    intro i c hi
    refine Ev.end (fun q => ?_)
    simp only [spec_l21One.l0]
    rw [if_neg (by rw [hlen]; omega)]; rfl
  | succ d ih =>
    intro i c hi
    have ea := bit_nat (a := a) (n := i) (by omega) (by omega)
    cases hat : a.testBit i with
    | false =>
      have e : spec_l21One.restL n k v a b i (d + 1) = spec_l21One.restL n k v a b (i + 1) d := by unfold spec_l21One.restL; rw [List.range'_succ, List.filter_cons, hat]; rfl
      rw [e]
      refine Ev.step (fun q => ?_) (ih (i + 1) c (by omega))
      simp only [spec_l21One.l0]
      rw [if_pos (by rw [hlen]; omega), if_pos (Int.natCast_nonneg i), ea, hat, if_pos (by decide), up1 (by omega)]
    | true =>
      have e : spec_l21One.restL n k v a b i (d + 1) = spec_l21One.rowL k v b i 0 (2 ^ (n - k)) ++ spec_l21One.restL n k v a b (i + 1) d := by unfold spec_l21One.restL; rw [List.range'_succ, List.filter_cons, hat]; rfl
      rw [e]
      refine Ev.step (fun q => ?_) (spec_l21One.inner hs (by omega) hb hb2 _ (fun c => ih (i + 1) c (by omega)) (2 ^ (n - k)) 0 c (by omega))
      simp only [spec_l21One.l0]
      rw [if_pos (by rw [hlen]; omega), if_pos (Int.natCast_nonneg i), ea, hat, if_neg (by decide)]; rfl
open Go.Proofs.Ythkdjccjcpneiaa.M in
/-- less than two: the same on all -/
theorem spec_l21One.ev {n k v a b : Nat} (hs : Sp n k) (ha : a < 16) (hb : b < 16) (hb2 : b < 2 ^ 2 ^ (n - k)) (hne : pxL n k a b ≠ []) : ∃ z : Int, Ev (fun q => spec_l21One.f q (spec_MatrixOf.mat n k v) (a : Int) (b : Int)) z ∧ (z < 2 ↔ conB n k v a b = true) := by
  have h := spec_l21One.outer (v := v) hs ha hb hb2 (2 ^ k) 0 (-1) (by omega)
  have e : spec_l21One.restL n k v a b 0 (2 ^ k) = (pxL n k a b).map v.testBit := by
    unfold spec_l21One.restL pxL spec_l21One.rowL
    rw [← List.range_eq_range', ← List.range_eq_range', List.map_flatMap]
    simp only [List.map_map]
    rfl
  rw [e] at h
  refine ⟨_, h, ?_⟩
  rw [cubeGo_lt _ (by simpa using hne)]
  unfold conB allL
  rw [Bool.or_eq_true, List.all_map, List.all_map]
  rfl

/-! ### facts on spec_l21Least -/
--IMPORT M20
open Go.Proofs.Ythkdjccjcpneiaa.M in
theorem spec_l21Least.bestOf_one (g : Nat → Nat) : ∀ l, bestOf g 1 l = 1
  | [] => rfl
  | x :: t => by
    have e : bestOf g 1 (x :: t) = bestOf g (min 1 (1 + g x)) t := rfl
    rw [e, show min 1 (1 + g x) = 1 by omega]
    exact spec_l21Least.bestOf_one g t
open Go.Proofs.Ythkdjccjcpneiaa.M in
theorem spec_l21Least.val {p q s : Nat} (hp : p ≤ 4) (hq : q ≤ 4) (hs : 1 ≤ s) (hs5 : s ≤ 5) : mn (s : Int) (mx (wrap64 (1 + ((min p (s - 1) : Nat) : Int))) (wrap64 (1 + ((min q (s - 1) : Nat) : Int)))) = ((min s (1 + max p q) : Nat) : Int) := by
  rw [w64 (by omega) (by omega), w64 (by omega) (by omega)]
  unfold mx mn
  split <;> split <;> omega
open Go.Proofs.Ythkdjccjcpneiaa.M in
theorem spec_l21Least.and_le {x a : Nat} (h : 0 < x) : ((x - 1) &&& a) < x := Nat.lt_of_le_of_lt Nat.and_le_left (by omega)
open Go.Proofs.Ythkdjccjcpneiaa.M in
/-- B's halves -/
theorem spec_l21Least.loopB {m : List Int} {con : Nat → Nat → Bool} {a b : Nat} (ha : a < 16) (hb : b < 16) (hsub : ∀ y, y ∈ vis b 16 ((b - 1) &&& b) → ∀ s : Nat, s ≤ 3 → Ev (fun q => spec_l21Least.f q m (a : Int) (y : Int) (s : Int)) ((min (nd con 40 a y) (s + 1) : Nat) : Int) ∧ Ev (fun q => spec_l21Least.f q m (a : Int) ((b - y : Nat) : Int) (s : Int)) ((min (nd con 40 a (b - y)) (s + 1) : Nat) : Int)) :
    ∀ (f x s : Nat), x < f → x ≤ b → (∀ y ∈ vis b f x, y ∈ vis b 16 ((b - 1) &&& b)) → 1 ≤ s → s ≤ 5 → Ev (fun q => spec_l21Least.l1 q m (a : Int) (b : Int) (s : Int) (x : Int)) ((bestOf (gB con 40 a b) s (vis b f x) : Nat) : Int)
  | 0, x, s, h, _, _, _, _ => by omega
  | f + 1, x, s, h, hxb, hm, h1, h5 => by
    by_cases hx : x = 0
    · subst hx
      have e : vis b (f + 1) 0 = [] := by rw [vis, if_pos rfl]
      rw [e]
      refine Ev.end (fun q => ?_)
      simp only [spec_l21Least.l1]
      rw [if_neg (by omega)]; rfl
    · have hlt := spec_l21Least.and_le (x := x) (a := b) (by omega)
      have ew : wrap64 ((x : Int) - 1) = ((x - 1 : Nat) : Int) := by rw [w64 (by omega) (by omega)]; omega
      have ea : Go.bits .and .i64 ((x - 1 : Nat) : Int) (b : Int) = (((x - 1) &&& b : Nat) : Int) := and_nat (by omega) (by omega)
      have es : wrap64 ((b : Int) - (x : Int)) = ((b - x : Nat) : Int) := by rw [w64 (by omega) (by omega)]; omega
      by_cases hh : x < b - x
      · have e : vis b (f + 1) x = vis b f ((x - 1) &&& b) := by rw [vis, if_neg hx, if_pos hh]
        rw [e] at hm ⊢
        have nx := spec_l21Least.loopB ha hb hsub f ((x - 1) &&& b) s (by omega) (by omega) hm h1 h5
        refine Ev.step (f := fun q => spec_l21Least.j2 q m (a : Int) (b : Int) (s : Int) (x : Int) true) (fun q => ?_) (Ev.step (fun q => ?_) nx)
        · simp only [spec_l21Least.l1]
          rw [if_pos (by omega), es, if_pos (by omega)]
        · simp only [spec_l21Least.j2]
          rw [if_pos trivial, ew, ea]
      · have e : vis b (f + 1) x = x :: vis b f ((x - 1) &&& b) := by rw [vis, if_neg hx, if_neg hh]
        rw [e] at hm ⊢
        have e2 : bestOf (gB con 40 a b) s (x :: vis b f ((x - 1) &&& b)) = bestOf (gB con 40 a b) (min s (1 + gB con 40 a b x)) (vis b f ((x - 1) &&& b)) := rfl
        rw [e2]
        have hg1 := nd_le con 40 a x
        have hg2 := nd_le con 40 a (b - x)
        have hgv : gB con 40 a b x = max (nd con 40 a x) (nd con 40 a (b - x)) := rfl
        have nx := fun s' h1' h5' => spec_l21Least.loopB ha hb hsub f ((x - 1) &&& b) s' (by omega) (by omega) (fun y hy => hm y (List.mem_cons_of_mem _ hy)) h1' h5'
        by_cases hs1 : s = 1
        · subst hs1
          rw [show min 1 (1 + gB con 40 a b x) = 1 by omega]
          refine Ev.step (f := fun q => spec_l21Least.j2 q m (a : Int) (b : Int) ((1 : Nat) : Int) (x : Int) true) (fun q => ?_) (Ev.step (fun q => ?_) (nx 1 (by omega) (by omega)))
          · simp only [spec_l21Least.l1]
            rw [if_pos (by omega), es, if_neg (by omega)]; rfl
          · simp only [spec_l21Least.j2]
            rw [if_pos trivial, ew, ea]
        · have et : wrap64 ((s : Int) - 2) = ((s - 2 : Nat) : Int) := by rw [w64 (by omega) (by omega)]; omega
          obtain ⟨i1, i2⟩ := hsub x (hm x (List.mem_cons_self ..)) (s - 2) (by omega)
          rw [show s - 2 + 1 = s - 1 by omega] at i1 i2
          refine Ev.step (f := fun q => spec_l21Least.j2 q m (a : Int) (b : Int) (s : Int) (x : Int) false) (fun q => ?_) (Ev.step (f := fun q => (spec_l21Least.f q m (a : Int) (x : Int) ((s - 2 : Nat) : Int)).bind fun t => if (wrap64 (1 + t)) < (s : Int) then ((spec_l21Least.f q m (a : Int) ((b - x : Nat) : Int) ((s - 2 : Nat) : Int)).bind fun t2 => spec_l21Least.l1 q m (a : Int) (b : Int) (mn (s : Int) (mx (wrap64 (1 + t)) (wrap64 (1 + t2)))) (((x - 1) &&& b : Nat) : Int)) else spec_l21Least.l1 q m (a : Int) (b : Int) (s : Int) (((x - 1) &&& b : Nat) : Int)) (fun q => ?_) (Ev.bind i1 ?_))
          · have hne : (((s : Int)) == 1) = false := beq_eq_false_iff_ne.mpr (by omega)
            simp only [spec_l21Least.l1]
            rw [if_pos (by omega), es, if_neg (by omega), hne]
          · simp only [spec_l21Least.j2]
            rw [if_neg (by decide), ew, ea, et, es]
          · by_cases hc : 1 + min (nd con 40 a x) (s - 1) < s
            · refine Ev.congr (fun q => if_pos (by rw [w64 (by omega) (by omega)]; omega)) (Ev.bind i2 ?_)
              rw [spec_l21Least.val hg1 hg2 h1 h5, ← hgv]
              exact nx _ (by omega) (by omega)
            · refine Ev.congr (fun q => if_neg (by rw [w64 (by omega) (by omega)]; omega)) ?_
              rw [show min s (1 + gB con 40 a b x) = s by omega]
              exact nx s h1 h5
open Go.Proofs.Ythkdjccjcpneiaa.M in
/-- A's halves, and then B's -/
theorem spec_l21Least.loopA {m : List Int} {con : Nat → Nat → Bool} {a b : Nat} (ha : a < 16) (hb : b < 16) (hb0 : 1 ≤ b) (hsub : ∀ y, y ∈ vis a 16 ((a - 1) &&& a) → ∀ s : Nat, s ≤ 3 → Ev (fun q => spec_l21Least.f q m (y : Int) (b : Int) (s : Int)) ((min (nd con 40 y b) (s + 1) : Nat) : Int) ∧ Ev (fun q => spec_l21Least.f q m ((a - y : Nat) : Int) (b : Int) (s : Int)) ((min (nd con 40 (a - y) b) (s + 1) : Nat) : Int))
    (hB : ∀ s : Nat, 1 ≤ s → s ≤ 5 → Ev (fun q => spec_l21Least.l1 q m (a : Int) (b : Int) (s : Int) (((b - 1) &&& b : Nat) : Int)) ((bestOf (gB con 40 a b) s (vis b 16 ((b - 1) &&& b)) : Nat) : Int)) :
    ∀ (f x s : Nat), x < f → x ≤ a → (∀ y ∈ vis a f x, y ∈ vis a 16 ((a - 1) &&& a)) → 2 ≤ s → s ≤ 5 → Ev (fun q => spec_l21Least.l0 q m (a : Int) (b : Int) (s : Int) (x : Int)) ((bestOf (gB con 40 a b) (bestOf (gA con 40 a b) s (vis a f x)) (vis b 16 ((b - 1) &&& b)) : Nat) : Int)
  | 0, x, s, h, _, _, _, _ => by omega
  | f + 1, x, s, h, hxb, hm, h1, h5 => by
    by_cases hx : x = 0
    · subst hx
      have e : vis a (f + 1) 0 = [] := by rw [vis, if_pos rfl]
      rw [e]
      refine Ev.step (fun q => ?_) (hB s (by omega) h5)
      simp only [spec_l21Least.l0]
      rw [if_neg (by omega), show wrap64 ((b : Int) - 1) = ((b - 1 : Nat) : Int) by rw [w64 (by omega) (by omega)]; omega, and_nat (by omega) (by omega)]
    · have hlt := spec_l21Least.and_le (x := x) (a := a) (by omega)
      have ew : wrap64 ((x : Int) - 1) = ((x - 1 : Nat) : Int) := by rw [w64 (by omega) (by omega)]; omega
      have ea : Go.bits .and .i64 ((x - 1 : Nat) : Int) (a : Int) = (((x - 1) &&& a : Nat) : Int) := and_nat (by omega) (by omega)
      have es : wrap64 ((a : Int) - (x : Int)) = ((a - x : Nat) : Int) := by rw [w64 (by omega) (by omega)]; omega
      by_cases hh : x < a - x
      · have e : vis a (f + 1) x = vis a f ((x - 1) &&& a) := by rw [vis, if_neg hx, if_pos hh]
        rw [e] at hm ⊢
        have nx := spec_l21Least.loopA ha hb hb0 hsub hB f ((x - 1) &&& a) s (by omega) (by omega) hm h1 h5
        refine Ev.step (fun q => ?_) nx
        simp only [spec_l21Least.l0]
        rw [if_pos (by omega), es, if_pos (by omega), ew, ea]
      · have e : vis a (f + 1) x = x :: vis a f ((x - 1) &&& a) := by rw [vis, if_neg hx, if_neg hh]
        rw [e] at hm ⊢
        have e2 : bestOf (gA con 40 a b) s (x :: vis a f ((x - 1) &&& a)) = bestOf (gA con 40 a b) (min s (1 + gA con 40 a b x)) (vis a f ((x - 1) &&& a)) := rfl
        rw [e2]
        have hg1 := nd_le con 40 x b
        have hg2 := nd_le con 40 (a - x) b
        have hgv : gA con 40 a b x = max (nd con 40 x b) (nd con 40 (a - x) b) := rfl
        have nx := fun s' h1' h5' => spec_l21Least.loopA ha hb hb0 hsub hB f ((x - 1) &&& a) s' (by omega) (by omega) (fun y hy => hm y (List.mem_cons_of_mem _ hy)) h1' h5'
        have et : wrap64 ((s : Int) - 2) = ((s - 2 : Nat) : Int) := by rw [w64 (by omega) (by omega)]; omega
        obtain ⟨i1, i2⟩ := hsub x (hm x (List.mem_cons_self ..)) (s - 2) (by omega)
        rw [show s - 2 + 1 = s - 1 by omega] at i1 i2
        refine Ev.step (f := fun q => (spec_l21Least.f q m (x : Int) (b : Int) ((s - 2 : Nat) : Int)).bind fun t => if (wrap64 (1 + t)) < (s : Int) then ((spec_l21Least.f q m ((a - x : Nat) : Int) (b : Int) ((s - 2 : Nat) : Int)).bind fun t2 => if (mn (s : Int) (mx (wrap64 (1 + t)) (wrap64 (1 + t2)))) = 1 then some (mn (s : Int) (mx (wrap64 (1 + t)) (wrap64 (1 + t2)))) else spec_l21Least.l0 q m (a : Int) (b : Int) (mn (s : Int) (mx (wrap64 (1 + t)) (wrap64 (1 + t2)))) (((x - 1) &&& a : Nat) : Int)) else if (s : Int) = 1 then some (s : Int) else spec_l21Least.l0 q m (a : Int) (b : Int) (s : Int) (((x - 1) &&& a : Nat) : Int)) (fun q => ?_) (Ev.bind i1 ?_)
        · simp only [spec_l21Least.l0]
          rw [if_pos (by omega), es, if_neg (by omega), ew, ea, et]
        · by_cases hc : 1 + min (nd con 40 x b) (s - 1) < s
          · refine Ev.congr (fun q => if_pos (by rw [w64 (by omega) (by omega)]; omega)) (Ev.bind i2 ?_)
            rw [spec_l21Least.val hg1 hg2 (by omega) h5, ← hgv]
            by_cases h11 : min s (1 + gA con 40 a b x) = 1
            · rw [h11, spec_l21Least.bestOf_one, spec_l21Least.bestOf_one]
              exact Ev.congr (fun q => if_pos rfl) (Ev.now _)
            · exact Ev.congr (fun q => if_neg (by omega)) (nx _ (by omega) (by omega))
          · refine Ev.congr (fun q => if_neg (by rw [w64 (by omega) (by omega)]; omega)) ?_
            rw [show min s (1 + gA con 40 a b x) = s by omega]
            exact Ev.congr (fun q => if_neg (by omega)) (nx s h1 h5)
open Go.Proofs.Ythkdjccjcpneiaa.M in
theorem spec_l21Least.ev {n k v : Nat} (hs : Sp n k) : ∀ N a b s : Nat, a + b ≤ N → Sd a b → a < 2 ^ 2 ^ k → b < 2 ^ 2 ^ (n - k) → s ≤ 4 → Ev (fun q => spec_l21Least.f q (spec_MatrixOf.mat n k v) (a : Int) (b : Int) (s : Int)) ((min (nd (conB n k v) 40 a b) (s + 1) : Nat) : Int) := by
  intro N
  induction N with
  | zero => intro a b s h hd; have := hd.ha; omega
  | succ N ih =>
    intro a b s hN hd ha hb hs4
    have h1 := hd.ha
    have h2 := hd.hb
    have h3 := hd.ha2
    have h4 := hd.hb2
    obtain ⟨z, hz, hz2⟩ := spec_l21One.ev (v := v) hs h3 h4 hb ((hs.at h3 h4).2.2 ha hb (by omega) (by omega))
    refine Ev.step (f := fun q => (spec_l21One.f q (spec_MatrixOf.mat n k v) (a : Int) (b : Int)).bind fun t => if t < 2 then some 0 else if (s : Int) = 0 then some 1 else spec_l21Least.l0 q (spec_MatrixOf.mat n k v) (a : Int) (b : Int) (wrap64 ((s : Int) + 1)) (Go.bits .and .i64 (wrap64 ((a : Int) - 1)) (a : Int))) (fun q => rfl) (Ev.bind hz ?_)
    by_cases hcon : conB n k v a b = true
    · have e : nd (conB n k v) 40 a b = 0 := by rw [nd, if_pos hcon]
      rw [e]
      exact Ev.congr (fun q => if_pos (hz2.mpr hcon)) (by simpa using Ev.now _)
    · refine Ev.congr (fun q => if_neg (fun h => hcon (hz2.mp h))) ?_
      have hpos : 1 ≤ nd (conB n k v) 40 a b := by
        obtain ⟨⟨e, _, he⟩, _⟩ := nd_got (hs.same v) hd (d := 40) (by omega) hcon
        omega
      by_cases hs0 : s = 0
      · subst hs0
        rw [show min (nd (conB n k v) 40 a b) (0 + 1) = 1 by omega]
        exact Ev.congr (fun q => if_pos rfl) (Ev.now _)
      · refine Ev.congr (fun q => if_neg (by omega)) ?_
        rw [← least_vis (hs.same v) (s := s + 1) hd (d := 40) (by omega) hcon, up1 (by omega), show wrap64 ((a : Int) - 1) = ((a - 1 : Nat) : Int) by rw [w64 (by omega) (by omega)]; omega, and_nat (a := a - 1) (b := a) (by omega) (by omega)]
        have sA : ∀ y, y ∈ vis a 16 ((a - 1) &&& a) → ∀ s : Nat, s ≤ 3 → Ev (fun q => spec_l21Least.f q (spec_MatrixOf.mat n k v) (y : Int) (b : Int) (s : Int)) ((min (nd (conB n k v) 40 y b) (s + 1) : Nat) : Int) ∧ Ev (fun q => spec_l21Least.f q (spec_MatrixOf.mat n k v) ((a - y : Nat) : Int) (b : Int) (s : Int)) ((min (nd (conB n k v) 40 (a - y) b) (s + 1) : Nat) : Int) := fun y hy s hs => by
          obtain ⟨q1, q2, _, _⟩ := vis_mem h1 h3 hy
          exact ⟨ih y b s (by omega) ⟨by omega, h2, by omega, h4⟩ (by omega) hb (by omega), ih (a - y) b s (by omega) ⟨by omega, h2, by omega, h4⟩ (by omega) hb (by omega)⟩
        have sB : ∀ y, y ∈ vis b 16 ((b - 1) &&& b) → ∀ s : Nat, s ≤ 3 → Ev (fun q => spec_l21Least.f q (spec_MatrixOf.mat n k v) (a : Int) (y : Int) (s : Int)) ((min (nd (conB n k v) 40 a y) (s + 1) : Nat) : Int) ∧ Ev (fun q => spec_l21Least.f q (spec_MatrixOf.mat n k v) (a : Int) ((b - y : Nat) : Int) (s : Int)) ((min (nd (conB n k v) 40 a (b - y)) (s + 1) : Nat) : Int) := fun y hy s hs => by
          obtain ⟨q1, q2, _, _⟩ := vis_mem h2 h4 hy
          exact ⟨ih a y s (by omega) ⟨h1, by omega, h3, by omega⟩ ha (by omega) (by omega), ih a (b - y) s (by omega) ⟨h1, by omega, h3, by omega⟩ ha (by omega) (by omega)⟩
        have la : ((a - 1) &&& a) ≤ a - 1 := Nat.and_le_left
        have lb : ((b - 1) &&& b) ≤ b - 1 := Nat.and_le_left
        exact spec_l21Least.loopA h3 h4 h2 sA (fun s q1 q2 => spec_l21Least.loopB h3 h4 sB 16 _ s (by omega) (by omega) (fun y hy => hy) q1 q2) 16 _ (s + 1) (by omega) (by omega) (fun y hy => hy) (by omega) (by omega)

/-! ### facts on spec_LeastBits -/
--IMPORT M20
open Go.Proofs.Ythkdjccjcpneiaa.M in
/-- the answer -/
def spec_LeastBits.r (a b k : Int) : Int := if spec_l21Fine.ok a b k = true then ((nd (conB a.toNat k.toNat b.toNat) 40 (2 ^ 2 ^ k.toNat - 1) (2 ^ 2 ^ (a.toNat - k.toNat) - 1) : Nat) : Int) else -1
open Go.Proofs.Ythkdjccjcpneiaa.M in
theorem spec_LeastBits.ev (a b k : Int) : Ev (fun q => spec_LeastBits.f q a b k) (spec_LeastBits.r a b k) := by
  unfold spec_LeastBits.r
  cases hok : spec_l21Fine.ok a b k with
  | false => exact Ev.congr (f := fun q => some (-1)) (fun q => by unfold spec_LeastBits.f; rw [spec_l21Fine.ev, hok]; rfl) (Ev.now _)
  | true =>
    obtain ⟨n, v, kk, rfl, rfl, rfl, hs, hv⟩ := spec_l21Fine.nat hok
    have hn := hs.hn
    have hk := hs.hk
    have hkn := hs.hkn
    have hl := hs.hl
    simp only [if_true, Int.toNat_natCast]
    have hpk : 2 ^ kk ≤ 4 := Nat.pow_le_pow_right (n := 2) (by decide) hk
    have hpl : 2 ^ (n - kk) ≤ 4 := Nat.pow_le_pow_right (n := 2) (by decide) hl
    have hqk : 2 ^ 2 ^ kk ≤ 16 := Nat.pow_le_pow_right (n := 2) (by decide) hpk
    have hql : 2 ^ 2 ^ (n - kk) ≤ 16 := Nat.pow_le_pow_right (n := 2) (by decide) hpl
    have hpk2 : 2 ≤ 2 ^ 2 ^ kk := by have := Nat.pow_le_pow_right (n := 2) (by decide) (Nat.one_le_two_pow (n := kk)); omega
    have hpl2 : 2 ≤ 2 ^ 2 ^ (n - kk) := by have := Nat.pow_le_pow_right (n := 2) (by decide) (Nat.one_le_two_pow (n := n - kk)); omega
    have hm := spec_MatrixOf.ev hs hv
    have hle := nd_le (conB n kk v) 40 (2 ^ 2 ^ kk - 1) (2 ^ 2 ^ (n - kk) - 1)
    have hlst := spec_l21Least.ev (v := v) hs 40 (2 ^ 2 ^ kk - 1) (2 ^ 2 ^ (n - kk) - 1) 4 (by omega) ⟨by omega, by omega, by omega, by omega⟩ (by omega) (by omega) (by omega)
    rw [show min (nd (conB n kk v) 40 (2 ^ 2 ^ kk - 1) (2 ^ 2 ^ (n - kk) - 1)) (4 + 1) = nd (conB n kk v) 40 (2 ^ 2 ^ kk - 1) (2 ^ 2 ^ (n - kk) - 1) by omega] at hlst
    have hlen : (spec_MatrixOf.mat n kk v).length = 2 ^ kk := by unfold spec_MatrixOf.mat; simp
    have e1 : wrap64 ((n : Int) - (kk : Int)) = ((n - kk : Nat) : Int) := by rw [w64 (by omega) (by omega)]; omega
    have e2 : wrap64 ((shl .i64 1 (((spec_MatrixOf.mat n kk v).length : Nat) : Int)) - 1) = ((2 ^ 2 ^ kk - 1 : Nat) : Int) := by rw [hlen, shl_one (by omega), w64 (by omega) (by omega)]; omega
    have e3 : wrap64 ((shl .i64 1 (shl .u64 1 ((n - kk : Nat) : Int))) - 1) = ((2 ^ 2 ^ (n - kk) - 1 : Nat) : Int) := by rw [full_word (by omega)]; omega
    refine Ev.congr (f := fun q => (spec_MatrixOf.f q (n : Int) (v : Int) (kk : Int)).bind fun t => if 0 ≤ (wrap64 ((n : Int) - (kk : Int))) then ((spec_l21Least.f q t.1 (wrap64 ((shl .i64 1 (t.1.length : Int)) - 1)) (wrap64 ((shl .i64 1 (shl .u64 1 (wrap64 ((n : Int) - (kk : Int))))) - 1)) 4).bind fun t2 => some t2) else none) (fun q => by unfold spec_LeastBits.f; rw [spec_l21Fine.ev, hok]; rfl) (Ev.bind hm ?_)
    refine Ev.congr (fun q => if_pos (by rw [e1]; omega)) ?_
    rw [e1, e3]
    show Ev (fun q => (spec_l21Least.f q (spec_MatrixOf.mat n kk v) (wrap64 ((shl .i64 1 (((spec_MatrixOf.mat n kk v).length : Nat) : Int)) - 1)) ((2 ^ 2 ^ (n - kk) - 1 : Nat) : Int) 4).bind fun t2 => some t2) _
    rw [e2]
    exact Ev.bind hlst (Ev.now _)

/-! ### facts on impl_isBits -/
theorem impl_isBits.ev (a : Int) : impl_isBits.f a = some (decide (0 ≤ a ∧ a ≤ 5)) := by
  unfold impl_isBits.f
  by_cases h : 0 ≤ a
  · rw [if_pos h]; simp [h]
  · rw [if_neg h]; simp [h]

/-! ### facts on impl_IsTable -/
--IMPORT M0
open Go.Proofs.Ythkdjccjcpneiaa.M in
theorem impl_IsTable.ev (a b : Int) : impl_IsTable.f a b = some (isT a b) := by
  unfold impl_IsTable.f isT
  rw [impl_isBits.ev]
  by_cases h : 0 ≤ a ∧ a ≤ 5
  · obtain ⟨n, rfl⟩ := nat_of h.1
    have hn : n ≤ 5 := by omega
    simp only [Option.bind_some, h, and_self, decide_true, if_true]
    by_cases hb : b ≥ 0
    · obtain ⟨v, rfl⟩ := nat_of hb
      have h5 := pow_le_5 hn
      rw [if_pos hb]
      unfold impl_Table_size.f
      rw [if_pos (Int.natCast_nonneg n), shl_one (by omega)]
      simp only [Option.bind_some]
      rw [if_pos (Int.natCast_nonneg _), shr_nat (by omega)]
      congr 1
      rw [Bool.eq_iff_iff]
      simp only [beq_iff_eq, decide_eq_true_eq, Int.toNat_natCast]
      have hz : v / 2 ^ 2 ^ n = 0 ↔ v < 2 ^ 2 ^ n := Nat.div_eq_zero_iff_lt (Nat.two_pow_pos _)
      rw [show (((v / 2 ^ 2 ^ n : Nat) : Int) = 0 ↔ v / 2 ^ 2 ^ n = 0) from by omega, hz]
      obtain ⟨P, hP⟩ : ∃ P, P = 2 ^ 2 ^ n := ⟨_, rfl⟩
      rw [← hP]
      simp only [h, true_and]
      omega
    · rw [if_neg hb]
      congr 1
      symm
      apply decide_eq_false
      omega
  · have h' : ¬ (0 ≤ a ∧ a ≤ 5 ∧ 0 ≤ b ∧ b < ((2 ^ 2 ^ a.toNat : Nat) : Int)) := fun e => h ⟨e.1, e.2.1⟩
    simp only [h, h', decide_false, Option.bind_some, Bool.false_eq_true, if_false]

/-! ### facts on impl_LeastBits -/
--IMPORT M20
open Go.Proofs.Ythkdjccjcpneiaa.M in
theorem impl_LeastBits.ev (a b k : Int) : impl_LeastBits.f a b k = some (spec_LeastBits.r a b k) := by
  unfold spec_LeastBits.r
  have hsp : impl_isSplit.f a b k = some (isT a b && decide (0 ≤ k ∧ k ≤ a)) := by
    unfold impl_isSplit.f
    rw [impl_IsTable.ev, Option.bind_some]
    cases isT a b with
    | false => rfl
    | true =>
      rw [if_pos rfl, Bool.true_and]
      by_cases h : k ≥ 0
      · rw [if_pos h]; congr 1; exact decide_eq_decide.mpr (by omega)
      · rw [if_neg h, decide_eq_false (by omega)]
  cases hok : spec_l21Fine.ok a b k with
  | true =>
    obtain ⟨n, v, kk, rfl, rfl, rfl, hs, hv⟩ := spec_l21Fine.nat hok
    have hn := hs.hn
    have hk := hs.hk
    have hkn := hs.hkn
    have hl := hs.hl
    have hvi : (v : Int) < ((2 ^ 2 ^ n : Nat) : Int) := by exact_mod_cast hv
    have hT := isT_mk (n := n) (v := v) (by omega) hv
    unfold impl_LeastBits.f
    rw [hsp, Option.bind_some, hT, decide_eq_true (show 0 ≤ (kk : Int) ∧ (kk : Int) ≤ (n : Int) by omega), if_pos ⟨rfl, by omega, by omega⟩, if_pos rfl]
    simp only [Int.toNat_natCast]
    rw [if_pos ⟨by omega, by omega, by omega, by omega, by omega, hvi⟩]
  | false =>
    have hno : ¬ ((isT a b && decide (0 ≤ k ∧ k ≤ a)) = true ∧ k ≤ 2 ∧ a - k ≤ 2) := fun e => by
      unfold spec_l21Fine.ok at hok
      obtain ⟨e1, e2, e3⟩ := e
      rw [Bool.and_eq_true] at e1
      have e4 := of_decide_eq_true e1.2
      rw [e1.1, decide_eq_true ⟨e4.1, e2⟩, decide_eq_true ⟨by omega, e3⟩] at hok
      cases hok
    have hyes : (isT a b && decide (0 ≤ k ∧ k ≤ a)) = true → 0 ≤ k ∧ 0 ≤ a ∧ a ≤ 5 := fun e => by
      rw [Bool.and_eq_true] at e
      have h2 := of_decide_eq_true e.2
      obtain ⟨n, v, rfl, rfl, hn, hv⟩ := isT_nat e.1
      omega
    unfold impl_LeastBits.f
    rw [hsp, Option.bind_some, if_neg hno, if_pos hyes, if_neg (by decide)]

/-! ### facts on laws_FnExactLeastBits -/
--IMPORT M20
open Go.Proofs.Ythkdjccjcpneiaa.M in
theorem laws_FnExactLeastBits.pure_ : laws_FnExactLeastBits.Pure := by
  intro a b k _ _ _
  have hs := spec_LeastBits.ev a b k
  have hi := impl_LeastBits.ev a b k
  generalize spec_LeastBits.r a b k = r at hs hi
  obtain ⟨K5, h5⟩ : ∃ K, ∀ q, K ≤ q → spec_LeastBits.f q a b k = some r := hs
  refine ⟨K5 + 3, ?_⟩
  simp (disch := omega) only [laws_FnExactLeastBits.f, laws_toTable.f, h5, hi, ↓reduceIte, Option.bind_some, bne_self_eq_false, Bool.false_eq_true]

end Go.Proofs.Ythkdjccjcpneiaa.Print
