/- Subcubes of tables: no program in sight. -/
import Derived.Test.YthkdjccjcpneiaaM10
import Derived.Test.YthkdjccjcpneiaaM2
namespace Go.Proofs.Ythkdjccjcpneiaa.M
open Go.RowKit Go.Proofs.YthkdjccjcpneiaaW.PrintWords Go.Proofs.YthkdjccjcpneiaaW.PrintLast
set_option linter.unusedVariables false
set_option linter.unusedSimpArgs false

/-- a table whose variables from the last one on are fixed, if they lie in m, to the bits of u: how many variables it has, and its word -/
def cutS (n v m u : Nat) : Nat → Nat × Nat
  | 0 => (n, v)
  | d + 1 => if m.testBit (n - 1 - d) = true then ((cutS n v m u d).1 - 1, rstW (cutS n v m u d).1 (cutS n v m u d).2 (n - 1 - d) (u.testBit (n - 1 - d)).toNat) else cutS n v m u d
/-- the words of the subcubes of the variables m, by their values below u -/
def cutRow (n v m : Nat) : Nat → List Nat
  | 0 => []
  | u + 1 => if andn u m = 0 then cutRow n v m u ++ [(cutS n v m u n).2] else cutRow n v m u
/-- the words of all subcubes with k free variables, by their sets of variables below m -/
def cutAll (n v k : Nat) : Nat → List Nat
  | 0 => []
  | m + 1 => if pc m + k = n then cutAll n v k m ++ cutRow n v m (2 ^ n) else cutAll n v k m
theorem cut_ok {n v m u : Nat} (hn : n ≤ 4) (hv : v < 2 ^ 2 ^ n) : ∀ d, d ≤ n → n - d ≤ (cutS n v m u d).1 ∧ (cutS n v m u d).1 ≤ n ∧ (cutS n v m u d).2 < 2 ^ 2 ^ (cutS n v m u d).1
  | 0, _ => ⟨by simp [cutS], by simp [cutS], hv⟩
  | d + 1, hd => by
    obtain ⟨h1, h2, h3⟩ := cut_ok (m := m) (u := u) hn hv d (by omega)
    rw [cutS]
    split
    · exact ⟨by simp only []; omega, by simp only []; omega, prefW_lt _ _⟩
    · exact ⟨by omega, h2, h3⟩
/-- how many variables are left -/
def cutLeft (n m : Nat) : Nat → Nat
  | 0 => n
  | d + 1 => if m.testBit (n - 1 - d) = true then cutLeft n m d - 1 else cutLeft n m d
theorem cut_left (n v m u : Nat) : ∀ d, (cutS n v m u d).1 = cutLeft n m d
  | 0 => rfl
  | d + 1 => by
    rw [cutS, cutLeft, ← cut_left n v m u d]
    split <;> rfl
theorem left_all : ∀ n, n < 5 → ∀ m, m < 16 → m < 2 ^ n → cutLeft n m n + pc m = n :=
  allB_dec2 (P := fun n m => m < 2 ^ n → cutLeft n m n + pc m = n) (by decide +kernel)
theorem pow16 {n : Nat} (h : n ≤ 4) : 2 ^ n ≤ 16 := Nat.pow_le_pow_right (n := 2) (by decide) h
theorem cut_word {n v m u k : Nat} (hn : n ≤ 4) (hv : v < 2 ^ 2 ^ n) (hm : m < 2 ^ n) (hk : pc m + k = n) : (cutS n v m u n).1 = k ∧ (cutS n v m u n).2 < 2 ^ 2 ^ k := by
  have h16 := pow16 hn
  have h1 := cut_left n v m u n
  have h2 := left_all n (by omega) m (by omega) hm
  have h3 := (cut_ok (m := m) (u := u) hn hv n (Nat.le_refl _)).2.2
  have e : (cutS n v m u n).1 = k := by omega
  rw [e] at h3
  exact ⟨e, h3⟩

/-! the same from the first variable on -/
def cutStep (m u i : Nat) (s : Nat × Nat) : Nat × Nat := if m.testBit i = true then (s.1 - 1, rstW s.1 s.2 i (u.testBit i).toNat) else s
def cutF (m u : Nat) : Nat → Nat × Nat → Nat × Nat
  | 0, s => s
  | i + 1, s => cutF m u i (cutStep m u i s)
theorem cutF_S (n v m u : Nat) : ∀ d, d ≤ n → cutF m u (n - d) (cutS n v m u d) = cutF m u n (n, v)
  | 0, _ => rfl
  | d + 1, h => by
    rw [← cutF_S n v m u d (by omega), show n - d = (n - 1 - d) + 1 by omega, cutF, show n - (d + 1) = n - 1 - d by omega]
    congr 1
theorem cutS_F (n v m u : Nat) : cutS n v m u n = cutF m u n (n, v) := by
  have := cutF_S n v m u n (Nat.le_refl _)
  rw [Nat.sub_self] at this
  exact this
/-- does an input agree with u on the first i variables of m -/
def agr (m u i y : Nat) : Bool := (y &&& (m % 2 ^ i)) == u % 2 ^ i
theorem low_and (y m i : Nat) : (y % 2 ^ i) &&& (m % 2 ^ i) = y &&& (m % 2 ^ i) := by
  apply Nat.eq_of_testBit_eq; intro j
  simp only [Nat.testBit_and, Nat.testBit_mod_two_pow]
  by_cases h : j < i <;> simp [h]
theorem agr_congr {m u i y z : Nat} (h : y % 2 ^ i = z % 2 ^ i) : agr m u i y = agr m u i z := by
  unfold agr
  rw [← low_and y m i, ← low_and z m i, h]
theorem agr_succ (m u i y : Nat) (hm : m.testBit i = true) : agr m u (i + 1) y = (agr m u i y && (y.testBit i == u.testBit i)) := by
  have key : (y &&& (m % 2 ^ (i + 1)) = u % 2 ^ (i + 1)) ↔ (y &&& (m % 2 ^ i) = u % 2 ^ i ∧ y.testBit i = u.testBit i) := by
    constructor
    · intro h
      constructor
      · apply Nat.eq_of_testBit_eq; intro j
        have hj := congrArg (fun x => x.testBit j) h
        simp only [Nat.testBit_and, Nat.testBit_mod_two_pow] at hj ⊢
        by_cases h1 : j < i
        · simpa [h1, show j < i + 1 by omega] using hj
        · simp [h1]
      · have hj := congrArg (fun x => x.testBit i) h
        simp only [Nat.testBit_and, Nat.testBit_mod_two_pow] at hj
        simpa [hm] using hj
    · rintro ⟨h1, h2⟩
      apply Nat.eq_of_testBit_eq; intro j
      have hj := congrArg (fun x => x.testBit j) h1
      simp only [Nat.testBit_and, Nat.testBit_mod_two_pow] at hj ⊢
      by_cases h3 : j < i
      · simpa [h3, show j < i + 1 by omega] using hj
      · by_cases h4 : j = i
        · subst h4; simp [hm, h2]
        · simp [show ¬ j < i + 1 by omega]
  unfold agr
  rw [Bool.eq_iff_iff, Bool.and_eq_true, beq_iff_eq, beq_iff_eq, beq_iff_eq]
  exact key
theorem agr_skip (m u i y : Nat) (hm : m.testBit i = false) (hu : u.testBit i = false) : agr m u (i + 1) y = agr m u i y := by
  have e : ∀ x : Nat, x.testBit i = false → x % 2 ^ (i + 1) = x % 2 ^ i := fun x hx => by
    apply Nat.eq_of_testBit_eq; intro j
    simp only [Nat.testBit_mod_two_pow]
    by_cases h1 : j < i
    · simp [h1, show j < i + 1 by omega]
    · by_cases h2 : j = i
      · subst h2; simp [hx]
      · simp [h1, show ¬ j < i + 1 by omega]
  unfold agr
  rw [e m hm, e u hu]
theorem ins_low : ∀ z, z < 16 → ∀ i, i < 5 → ∀ c, c < 2 → ins z i c % 2 ^ i = z % 2 ^ i :=
  allB_dec3 (P := fun z i c => ins z i c % 2 ^ i = z % 2 ^ i) (by decide +kernel)
theorem ins_list : ∀ b, b < 5 → ∀ i, i < 4 → ∀ c, c < 2 → i < b → (List.range (2 ^ (b - 1))).map (fun z => ins z i c) = (List.range (2 ^ b)).filter (fun y => y.testBit i == decide (c = 1)) :=
  allB_dec3 (P := fun b i c => i < b → (List.range (2 ^ (b - 1))).map (fun z => ins z i c) = (List.range (2 ^ b)).filter (fun y => y.testBit i == decide (c = 1))) (by decide +kernel)
/-- the values of a word, in order -/
def vals (b w : Nat) : List Bool := (List.range (2 ^ b)).map w.testBit
theorem cut_vals {m u : Nat} (hum : andn u m = 0) : ∀ (i b w : Nat), i ≤ b → b ≤ 4 → vals (cutF m u i (b, w)).1 (cutF m u i (b, w)).2 = ((List.range (2 ^ b)).filter (agr m u i)).map w.testBit
  | 0, b, w, _, _ => by
    have e : agr m u 0 = fun _ => true := by funext y; simp [agr, Nat.mod_one]
    rw [cutF, e, List.filter_eq_self.mpr (fun _ _ => rfl)]; rfl
  | i + 1, b, w, hi, hb => by
    have hui : m.testBit i = false → u.testBit i = false := fun h => by
      have h1 := testBit_andn u m i
      rw [hum, Nat.zero_testBit, h] at h1
      revert h1; cases u.testBit i <;> simp
    rw [cutF, cutStep]
    cases hm : m.testBit i with
    | false =>
      rw [if_neg (by decide), cut_vals hum i b w (by omega) hb]
      congr 2
      funext y
      exact (agr_skip m u i y hm (hui hm)).symm
    | true =>
      rw [if_pos rfl, cut_vals hum i (b - 1) _ (by omega) (by omega)]
      have ht := toNat_lt (u.testBit i)
      have hl := ins_list b (by omega) i (by omega) (u.testBit i).toNat ht (by omega)
      have hc : decide ((u.testBit i).toNat = 1) = u.testBit i := by cases u.testBit i <;> rfl
      rw [hc] at hl
      have h8 : 2 ^ (b - 1) ≤ 16 := pow16 (by omega)
      have e1 : ((List.range (2 ^ (b - 1))).filter (agr m u i)).map (rstW b w i (u.testBit i).toNat).testBit = ((List.range (2 ^ (b - 1))).filter (agr m u i)).map (fun z => w.testBit (ins z i (u.testBit i).toNat)) := by
        apply List.map_congr_left
        intro z hz
        have hz2 := List.mem_range.mp (List.mem_filter.mp hz).1
        unfold rstW
        rw [testBit_prefW, decide_eq_true hz2, Bool.true_and]
      have e2 : ((List.range (2 ^ (b - 1))).filter (agr m u i)) = ((List.range (2 ^ (b - 1))).filter (fun z => agr m u i (ins z i (u.testBit i).toNat))) := by
        apply List.filter_congr
        intro z hz
        have hz2 := List.mem_range.mp hz
        exact (agr_congr (ins_low z (by omega) i (by omega) _ ht)).symm
      have e3 : ((List.range (2 ^ (b - 1))).filter (fun z => agr m u i (ins z i (u.testBit i).toNat))).map (fun z => ins z i (u.testBit i).toNat) = ((List.range (2 ^ b)).filter (agr m u (i + 1))) := by
        have := List.filter_map (f := fun z => ins z i (u.testBit i).toNat) (p := agr m u i) (l := List.range (2 ^ (b - 1)))
        show List.map _ (List.filter (agr m u i ∘ fun z => ins z i (u.testBit i).toNat) _) = _
        rw [← this, hl, List.filter_filter]
        apply List.filter_congr
        intro y _
        exact (agr_succ m u i y hm).symm
      rw [e1, e2, ← e3, List.map_map]
      rfl
theorem cube_vals {n v m u k : Nat} (hn : n ≤ 4) (hv : v < 2 ^ 2 ^ n) (hm : m < 2 ^ n) (hk : pc m + k = n) (hu : u < 2 ^ n) (hum : andn u m = 0) : vals k (cutS n v m u n).2 = ((List.range (2 ^ n)).filter (fun x => x &&& m == u)).map v.testBit := by
  have h := cut_vals hum n n v (Nat.le_refl _) hn
  rw [← cutS_F, (cut_word hn hv hm hk).1] at h
  rw [h]
  congr 2
  funext x
  unfold agr
  rw [Nat.mod_eq_of_lt hm, Nat.mod_eq_of_lt hu]
/-- sets beyond m have no row -/
theorem cutRow_stop {n v m : Nat} : ∀ d, cutRow n v m (m + 1 + d) = cutRow n v m (m + 1)
  | 0 => rfl
  | d + 1 => by
    rw [← Nat.add_assoc, cutRow, cutRow_stop d, if_neg (fun e => ?_)]
    have h := subset_iff.mpr e
    have : (m + 1 + d) &&& m ≤ m := Nat.and_le_right
    omega
theorem cutRow_full {n v m : Nat} (hm : m < 2 ^ n) : cutRow n v m (2 ^ n) = cutRow n v m (m + 1) := by
  have := cutRow_stop (n := n) (v := v) (m := m) (2 ^ n - (m + 1))
  rw [show m + 1 + (2 ^ n - (m + 1)) = 2 ^ n by omega] at this
  exact this
theorem cutRow_len (n v m : Nat) : ∀ u, (cutRow n v m u).length ≤ u
  | 0 => by simp [cutRow]
  | u + 1 => by
    have := cutRow_len n v m u
    rw [cutRow]; split <;> simp <;> omega
theorem cutAll_len {n v k : Nat} (hn : n ≤ 4) : ∀ m, m ≤ 2 ^ n → (cutAll n v k m).length ≤ m * 16
  | 0, _ => by simp [cutAll]
  | m + 1, h => by
    have h1 := cutAll_len (v := v) (k := k) hn m (by omega)
    have h2 := cutRow_len n v m (2 ^ n)
    have := pow16 hn
    rw [cutAll]; split
    · rw [List.length_append]; omega
    · omega
theorem cutAll_lt {n v k : Nat} (hn : n ≤ 4) (hv : v < 2 ^ 2 ^ n) : ∀ m, m ≤ 2 ^ n → ∀ x ∈ cutAll n v k m, x < 2 ^ 2 ^ k
  | 0, _, x, h => by simp [cutAll] at h
  | m + 1, hm, x, h => by
    rw [cutAll] at h
    split at h
    · rename_i hk
      rcases List.mem_append.mp h with h | h
      · exact cutAll_lt hn hv m (by omega) x h
      · have key : ∀ u, ∀ x ∈ cutRow n v m u, x < 2 ^ 2 ^ k := by
          intro u
          induction u with
          | zero => intro x h; simp [cutRow] at h
          | succ u ih =>
            intro x h
            rw [cutRow] at h
            split at h
            · rcases List.mem_append.mp h with h | h
              · exact ih x h
              · rw [List.mem_singleton] at h; rw [h]; exact (cut_word hn hv (by omega) hk).2
            · exact ih x h
        exact key _ x h
    · exact cutAll_lt hn hv m (by omega) x h
/-! lists of values -/
/-- the value of a list, 2 if there are two, behind a first one -/
def cubeGo (first : Int) : List Bool → Int
  | [] => first
  | b :: t => if first ≥ 0 then (if first = ((b.toNat : Nat) : Int) then cubeGo ((b.toNat : Nat) : Int) t else 2) else cubeGo ((b.toNat : Nat) : Int) t
theorem cubeGo_nat (c : Bool) : ∀ l : List Bool, cubeGo ((c.toNat : Nat) : Int) l = if l.all (· == c) = true then ((c.toNat : Nat) : Int) else 2
  | [] => rfl
  | b :: t => by
    have ih := cubeGo_nat b t
    rw [cubeGo, if_pos (Int.natCast_nonneg _), List.all_cons]
    by_cases h : b = c
    · subst h
      rw [if_pos rfl, ih]; simp
    · rw [if_neg (by cases b <;> cases c <;> simp_all)]
      have : (b == c) = false := beq_eq_false_iff_ne.mpr h
      rw [this, Bool.false_and, if_neg (by decide)]
theorem cubeGo_lt (l : List Bool) (hl : l ≠ []) : (cubeGo (-1) l < 2) ↔ (l.all (· == true) = true ∨ l.all (· == false) = true) := by
  cases l with
  | nil => exact absurd rfl hl
  | cons b t =>
    rw [cubeGo, if_neg (by decide), cubeGo_nat, List.all_cons, List.all_cons]
    cases b
    · show _ ↔ (false && _) = true ∨ (true && _) = true
      rw [Bool.false_and, Bool.true_and]
      by_cases h : t.all (· == false) = true
      · rw [if_pos h]; exact ⟨fun _ => .inr h, fun _ => by decide⟩
      · rw [if_neg h]; exact ⟨fun e => absurd e (by decide), fun e => absurd (e.resolve_left (by decide)) h⟩
    · show _ ↔ (true && _) = true ∨ (false && _) = true
      rw [Bool.false_and, Bool.true_and]
      by_cases h : t.all (· == true) = true
      · rw [if_pos h]; exact ⟨fun _ => .inl h, fun _ => by decide⟩
      · rw [if_neg h]; exact ⟨fun e => absurd e (by decide), fun e => absurd (e.resolve_right (by decide)) h⟩
theorem vals_ne (b w : Nat) : vals b w ≠ [] := by
  intro h
  have := congrArg List.length h
  simp [vals] at this
theorem vals_true {b w : Nat} (hw : w < 2 ^ 2 ^ b) : ((vals b w).all (· == true) = true) ↔ w = 2 ^ 2 ^ b - 1 := by
  unfold vals
  rw [List.all_map, List.all_eq_true]
  constructor
  · intro h
    apply word_ext hw (by have := Nat.two_pow_pos (2 ^ b); omega)
    intro i hi
    rw [Nat.testBit_two_pow_sub_one, decide_eq_true hi]
    have := h i (List.mem_range.mpr hi)
    simpa using this
  · intro h x hx
    have hx := List.mem_range.mp hx
    rw [h]
    show ((2 ^ 2 ^ b - 1).testBit x == true) = true
    rw [Nat.testBit_two_pow_sub_one, decide_eq_true hx]; rfl
theorem vals_false {b w : Nat} (hw : w < 2 ^ 2 ^ b) : ((vals b w).all (· == false) = true) ↔ w = 0 := by
  unfold vals
  rw [List.all_map, List.all_eq_true]
  constructor
  · intro h
    apply word_ext hw (Nat.two_pow_pos _)
    intro i hi
    rw [Nat.zero_testBit]
    have := h i (List.mem_range.mpr hi)
    simpa using this
  · intro h x hx
    rw [h]
    show ((0 : Nat).testBit x == false) = true
    rw [Nat.zero_testBit]; rfl
theorem cube_const {k w : Nat} (hw : w < 2 ^ 2 ^ k) : (cubeGo (-1) (vals k w) < 2) ↔ (w = 0 ∨ w = 2 ^ 2 ^ k - 1) := by
  rw [cubeGo_lt _ (vals_ne k w), vals_true hw, vals_false hw, Or.comm]
theorem cnt_filter (g : Nat → Bool) : ∀ m, cnt g m = ((List.range m).filter g).length
  | 0 => rfl
  | m + 1 => by
    rw [cnt, cnt_filter g m, List.range_succ, List.filter_append, List.length_append]
    cases h : g m <;> simp [h]
theorem pc_vals {k w : Nat} (hk : k ≤ 5) (hw : w < 2 ^ 2 ^ k) : pc w = ((vals k w).filter id).length := by
  have h5 := pow_le_5 hk
  unfold pc vals
  rw [show 32 = 2 ^ k + (32 - 2 ^ k) by omega, pc_of_lt hw, cnt_filter, List.filter_map, List.length_map]
  rfl
/-- how many ones lie in a subcube -/
theorem cube_ones {n v m u k : Nat} (hn : n ≤ 4) (hv : v < 2 ^ 2 ^ n) (hm : m < 2 ^ n) (hk : pc m + k = n) (hu : u < 2 ^ n) (hum : andn u m = 0) : pc (cutS n v m u n).2 = pc (v &&& prefW (fun x => x &&& m == u) (2 ^ n)) := by
  have h5 := pow16 hn
  have hlt : v &&& prefW (fun x => x &&& m == u) (2 ^ n) < 2 ^ 2 ^ n := Nat.lt_of_le_of_lt Nat.and_le_left hv
  rw [pc_vals (by omega) (cut_word hn hv hm hk).2, cube_vals hn hv hm hk hu hum, List.filter_map, List.length_map, List.filter_filter]
  unfold pc
  rw [show 32 = 2 ^ n + (32 - 2 ^ n) by omega, pc_of_lt hlt, cnt_filter]
  congr 1
  apply List.filter_congr
  intro x hx
  have hx := List.mem_range.mp hx
  rw [Nat.testBit_and, testBit_prefW, decide_eq_true hx, Bool.true_and]
  rfl
end Go.Proofs.Ythkdjccjcpneiaa.M
