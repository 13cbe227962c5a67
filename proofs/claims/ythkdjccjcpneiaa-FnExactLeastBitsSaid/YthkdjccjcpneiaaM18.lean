/- Least depths on subcubes: no program in sight. -/
import Derived.Test.YthkdjccjcpneiaaM12
namespace Go.Proofs.Ythkdjccjcpneiaa.M
open Go.RowKit Go.Proofs.YthkdjccjcpneiaaW.PrintWords Go.Proofs.YthkdjccjcpneiaaW.PrintLast
set_option linter.unusedVariables false
set_option linter.unusedSimpArgs false

/-- the inputs of a subcube -/
def inX (n m u : Nat) : List Nat := (List.range (2 ^ n)).filter (fun x => x &&& m == u)
/-- is a table constant on a list of inputs -/
def conL (v : Nat) (l : List Nat) : Bool := decide (cubeGo (-1) (l.map v.testBit) < 2)
/-- the variables below i that m does not hold -/
def frL (i m : Nat) : List Nat := (List.range i).filter (fun i => !m.testBit i)
theorem frL_succ_free {i m : Nat} (h : m.testBit i = false) : frL (i + 1) m = frL i m ++ [i] := by
  unfold frL; rw [List.range_succ, List.filter_append]; simp [h]
theorem frL_succ_held {i m : Nat} (h : m.testBit i = true) : frL (i + 1) m = frL i m := by
  unfold frL; rw [List.range_succ, List.filter_append]; simp [h]
def bestOf (g : Nat → Nat) (b : Nat) (l : List Nat) : Nat := l.foldl (fun b i => min b (1 + g i)) b
theorem bestOf_snoc (g : Nat → Nat) (b : Nat) (l : List Nat) (i : Nat) : bestOf g b (l ++ [i]) = min (bestOf g b l) (1 + g i) := by
  unfold bestOf; rw [List.foldl_append]; rfl
theorem bestOf_le (g : Nat → Nat) : ∀ (l : List Nat) (b : Nat), bestOf g b l ≤ b ∧ ∀ i ∈ l, bestOf g b l ≤ 1 + g i
  | [], b => ⟨Nat.le_refl _, fun i h => by cases h⟩
  | x :: t, b => by
    obtain ⟨h1, h2⟩ := bestOf_le g t (min b (1 + g x))
    have e : bestOf g b (x :: t) = bestOf g (min b (1 + g x)) t := rfl
    rw [e]
    refine ⟨by omega, fun i hi => ?_⟩
    rcases List.mem_cons.mp hi with rfl | hi
    · omega
    · exact h2 i hi
theorem bestOf_init (g : Nat → Nat) : ∀ (l : List Nat) (b c : Nat), b ≤ c → bestOf g b l = min b (bestOf g c l)
  | [], b, c, h => by show b = min b c; omega
  | x :: t, b, c, h => by
    have e : ∀ b, bestOf g b (x :: t) = bestOf g (min b (1 + g x)) t := fun _ => rfl
    rw [e, e, bestOf_init g t (min b (1 + g x)) (min c (1 + g x)) (by omega)]
    have := (bestOf_le g t (min c (1 + g x))).1
    omega
theorem bestOf_two {g : Nat → Nat} {l : List Nat} {b c i : Nat} (hi : i ∈ l) (hb : 1 + g i ≤ b) (hc : 1 + g i ≤ c) : bestOf g b l = bestOf g c l := by
  have h1 := (bestOf_le g l b).2 i hi
  have h2 := (bestOf_le g l c).2 i hi
  rcases Nat.le_total b c with h | h
  · rw [bestOf_init g l b c h]; omega
  · rw [bestOf_init g l c b h]; omega
theorem bestOf_congr {g g' : Nat → Nat} : ∀ (l : List Nat) (b : Nat), (∀ i ∈ l, g i = g' i) → bestOf g b l = bestOf g' b l
  | [], b, h => rfl
  | x :: t, b, h => by
    have e : ∀ g : Nat → Nat, bestOf g b (x :: t) = bestOf g (min b (1 + g x)) t := fun _ => rfl
    rw [e, e, h x (List.mem_cons_self ..)]
    exact bestOf_congr t _ (fun i hi => h i (List.mem_cons_of_mem _ hi))
theorem bestOf_map (g : Nat → Nat) (p : Nat → Nat) : ∀ (l : List Nat) (b : Nat), bestOf g b (l.map p) = bestOf (fun i => g (p i)) b l
  | [], b => rfl
  | x :: t, b => bestOf_map g p t _
/-- the least depth on a subcube: b where nothing is known, d: how many variables are left -/
def ldC (b n v : Nat) : Nat → Nat → Nat → Nat
  | 0, m, u => 0
  | d + 1, m, u => if conL v (inX n m u) = true then 0 else bestOf (fun i => max (ldC b n v d (m ||| 2 ^ i) u) (ldC b n v d (m ||| 2 ^ i) (u ||| 2 ^ i))) b (frL n m)

/-! what is checked of all subcubes of at most four variables -/
def subsOf (n m : Nat) : List Nat := (List.range (2 ^ n)).filter (fun u => andn u m == 0)
theorem mem_subs {n m u : Nat} : u ∈ subsOf n m ↔ u < 2 ^ n ∧ andn u m = 0 := by
  unfold subsOf; rw [List.mem_filter, List.mem_range, beq_iff_eq]
/-- the x-th input of the variables that m does not hold -/
def dpX (n m x : Nat) : Nat := (inX n m 0).getD x 0
def psX (n m i : Nat) : Nat := (frL n m).getD i 0
def allCubes (p : Nat → Nat → Nat → Bool) : Bool := (List.range 5).all fun n => (List.range (2 ^ n)).all fun m => (subsOf n m).all fun u => p n m u
theorem allCubes_of {p : Nat → Nat → Nat → Bool} (h : allCubes p = true) {n m u : Nat} (hn : n ≤ 4) (hm : m < 2 ^ n) (hu : u < 2 ^ n) (hum : andn u m = 0) : p n m u = true := by
  unfold allCubes at h
  have h1 := List.all_eq_true.mp h n (List.mem_range.mpr (by omega))
  have h2 := List.all_eq_true.mp h1 m (List.mem_range.mpr hm)
  exact List.all_eq_true.mp h2 u (mem_subs.mpr ⟨hu, hum⟩)
/-- a free variable's step leads to a subcube with one variable less -/
def stepOk (n m u : Nat) : Bool := ((frL n m).length == n - pc m) && (frL n m).all fun i => decide (m ||| 2 ^ i < 2 ^ n) && (pc (m ||| 2 ^ i) == pc m + 1) && (andn u (m ||| 2 ^ i) == 0) && decide (u ||| 2 ^ i < 2 ^ n) && (andn (u ||| 2 ^ i) (m ||| 2 ^ i) == 0)
theorem stepOk_all : allCubes stepOk = true := by decide +kernel
/-- a full subcube has one input -/
def oneOk (n m u : Nat) : Bool := (pc m != n) || ((inX n m u).length == 1)
theorem oneOk_all : allCubes oneOk = true := by decide +kernel
/-- a subcube of a subcube -/
def inOk (n m u : Nat) : Bool := (List.range (2 ^ (n - pc m))).all fun m' => (subsOf (n - pc m) m').all fun u' =>
  ((inX (n - pc m) m' u').map (fun j => dpX n m j ||| u) == inX n (m ||| dpX n m m') (u ||| dpX n m u')) && decide (m ||| dpX n m m' < 2 ^ n) && decide (u ||| dpX n m u' < 2 ^ n) && (andn (u ||| dpX n m u') (m ||| dpX n m m') == 0) && (pc (m ||| dpX n m m') == pc m + pc m')
theorem inOk_all : allCubes inOk = true := by decide +kernel
def frOk (n m u : Nat) : Bool := (List.range (2 ^ (n - pc m))).all fun m' => (subsOf (n - pc m) m').all fun u' =>
  ((frL (n - pc m) m').map (psX n m) == frL n (m ||| dpX n m m')) && (frL (n - pc m) m').all fun i => ((m ||| dpX n m m') ||| 2 ^ psX n m i == m ||| dpX n m (m' ||| 2 ^ i)) && ((u ||| dpX n m u') ||| 2 ^ psX n m i == u ||| dpX n m (u' ||| 2 ^ i))
theorem frOk_all : allCubes frOk = true := by decide +kernel
/-- the word of a subcube tells the values of its inputs -/
def ixOk (n m u : Nat) : Bool := ((List.range (2 ^ (n - pc m))).map (fun j => dpX n m j ||| u) == inX n m u) && (dpX n m 0 == 0)
theorem ixOk_all : allCubes ixOk = true := by decide +kernel

def neOk (n m u : Nat) : Bool := !(inX n m u).isEmpty
theorem neOk_all : allCubes neOk = true := by decide +kernel
structure Cb (n m u : Nat) : Prop where
  hn : n ≤ 4
  hm : m < 2 ^ n
  hu : u < 2 ^ n
  hum : andn u m = 0
theorem Cb.step {n m u i : Nat} (h : Cb n m u) (hi : i ∈ frL n m) : Cb n (m ||| 2 ^ i) u ∧ Cb n (m ||| 2 ^ i) (u ||| 2 ^ i) ∧ pc (m ||| 2 ^ i) = pc m + 1 := by
  have h1 := allCubes_of stepOk_all h.hn h.hm h.hu h.hum
  unfold stepOk at h1
  rw [Bool.and_eq_true] at h1
  have h2 := List.all_eq_true.mp h1.2 i hi
  simp only [Bool.and_eq_true, beq_iff_eq, decide_eq_true_eq] at h2
  obtain ⟨⟨⟨⟨a, b⟩, c⟩, d⟩, e⟩ := h2
  exact ⟨⟨h.hn, a, h.hu, c⟩, ⟨h.hn, a, d, e⟩, b⟩
theorem Cb.frees {n m u : Nat} (h : Cb n m u) : (frL n m).length = n - pc m := by
  have h1 := allCubes_of stepOk_all h.hn h.hm h.hu h.hum
  unfold stepOk at h1
  rw [Bool.and_eq_true] at h1
  exact beq_iff_eq.mp h1.1
theorem Cb.pc_le {n m u : Nat} (h : Cb n m u) : pc m ≤ n := by
  have := pow16 h.hn; have := left_all n (by have := h.hn; omega) m (by have := h.hm; omega) h.hm; omega
theorem Cb.ne {n m u : Nat} (h : Cb n m u) : inX n m u ≠ [] := by
  have h1 := allCubes_of neOk_all h.hn h.hm h.hu h.hum
  unfold neOk at h1
  intro e
  rw [e] at h1
  cases h1
theorem Cb.con {n m u v : Nat} (h : Cb n m u) (hp : pc m = n) : conL v (inX n m u) = true := by
  have h1 := allCubes_of oneOk_all h.hn h.hm h.hu h.hum
  unfold oneOk at h1
  rw [hp] at h1
  simp only [bne_self_eq_false, Bool.false_or, beq_iff_eq] at h1
  obtain ⟨x, hx⟩ := List.length_eq_one_iff.mp h1
  unfold conL
  rw [hx]
  show decide (cubeGo (-1) [v.testBit x] < 2) = true
  rw [cubeGo, if_neg (by decide), cubeGo]
  cases v.testBit x <;> decide
theorem ldC_le {b n v : Nat} (hb : n ≤ b) : ∀ {d m u : Nat}, Cb n m u → pc m + d = n → ldC b n v d m u ≤ d
  | 0, m, u, _, _ => Nat.le_refl _
  | d + 1, m, u, h, hp => by
    rw [ldC]
    split
    · omega
    · have hf := h.frees
      obtain ⟨i, hi⟩ : ∃ i, i ∈ frL n m := by
        cases hl : frL n m with
        | nil => rw [hl] at hf; simp at hf; omega
        | cons x t => exact ⟨x, List.mem_cons_self ..⟩
      obtain ⟨h1, h2, h3⟩ := h.step hi
      have a1 := ldC_le (v := v) hb (d := d) h1 (by omega)
      have a2 := ldC_le (v := v) hb (d := d) h2 (by omega)
      have := (bestOf_le (fun i => max (ldC b n v d (m ||| 2 ^ i) u) (ldC b n v d (m ||| 2 ^ i) (u ||| 2 ^ i))) (frL n m) b).2 i hi
      omega
/-- what is known of nothing does not matter -/
theorem ldC_init {b c n v : Nat} (hb : n ≤ b) (hc : n ≤ c) : ∀ {d m u : Nat}, Cb n m u → pc m + d = n → ldC b n v d m u = ldC c n v d m u
  | 0, m, u, _, _ => rfl
  | d + 1, m, u, h, hp => by
    rw [ldC, ldC]
    split
    · rfl
    · have hf := h.frees
      obtain ⟨i, hi⟩ : ∃ i, i ∈ frL n m := by
        cases hl : frL n m with
        | nil => rw [hl] at hf; simp at hf; omega
        | cons x t => exact ⟨x, List.mem_cons_self ..⟩
      have e : ∀ i ∈ frL n m, max (ldC b n v d (m ||| 2 ^ i) u) (ldC b n v d (m ||| 2 ^ i) (u ||| 2 ^ i)) = max (ldC c n v d (m ||| 2 ^ i) u) (ldC c n v d (m ||| 2 ^ i) (u ||| 2 ^ i)) := fun i hi => by
        obtain ⟨h1, h2, h3⟩ := h.step hi
        rw [ldC_init hb hc h1 (by omega), ldC_init hb hc h2 (by omega)]
      rw [bestOf_congr _ _ e]
      obtain ⟨h1, h2, h3⟩ := h.step hi
      have a1 := ldC_le (v := v) hc (d := d) h1 (by omega)
      have a2 := ldC_le (v := v) hc (d := d) h2 (by omega)
      exact bestOf_two hi (by omega) (by omega)
/-- the values of the word of a subcube -/
theorem cut_bit {n v m u k : Nat} (h : Cb n m u) (hv : v < 2 ^ 2 ^ n) (hk : pc m + k = n) {j : Nat} (hj : j < 2 ^ k) : (cutS n v m u n).2.testBit j = v.testBit (dpX n m j ||| u) := by
  have h1 := cube_vals h.hn hv h.hm hk h.hu h.hum
  have h2 := allCubes_of ixOk_all h.hn h.hm h.hu h.hum
  unfold ixOk at h2
  rw [Bool.and_eq_true, beq_iff_eq, show n - pc m = k by omega] at h2
  have e : (List.range (2 ^ n)).filter (fun x => x &&& m == u) = inX n m u := rfl
  rw [e, ← h2.1, List.map_map] at h1
  unfold vals at h1
  have h3 := congrArg (fun l => l[j]?) h1
  simp only [List.getElem?_map, List.getElem?_range hj, Option.map_some, Option.some.injEq] at h3
  exact h3
theorem Cb.sub {n m u k m' u' : Nat} (h : Cb n m u) (hk : pc m + k = n) (h' : Cb k m' u') :
    (inX k m' u').map (fun j => dpX n m j ||| u) = inX n (m ||| dpX n m m') (u ||| dpX n m u') ∧ Cb n (m ||| dpX n m m') (u ||| dpX n m u') ∧ pc (m ||| dpX n m m') = pc m + pc m' := by
  have h1 := allCubes_of inOk_all h.hn h.hm h.hu h.hum
  unfold inOk at h1
  rw [show n - pc m = k by omega] at h1
  have h2 := List.all_eq_true.mp h1 m' (List.mem_range.mpr h'.hm)
  have h3 := List.all_eq_true.mp h2 u' (mem_subs.mpr ⟨h'.hu, h'.hum⟩)
  simp only [Bool.and_eq_true, beq_iff_eq, decide_eq_true_eq] at h3
  obtain ⟨⟨⟨⟨a, b⟩, c⟩, d⟩, e⟩ := h3
  exact ⟨a, ⟨h.hn, b, c, d⟩, e⟩
theorem Cb.subf {n m u k m' u' : Nat} (h : Cb n m u) (hk : pc m + k = n) (h' : Cb k m' u') :
    (frL k m').map (psX n m) = frL n (m ||| dpX n m m') ∧ ∀ i ∈ frL k m', (m ||| dpX n m m') ||| 2 ^ psX n m i = m ||| dpX n m (m' ||| 2 ^ i) ∧ (u ||| dpX n m u') ||| 2 ^ psX n m i = u ||| dpX n m (u' ||| 2 ^ i) := by
  have h1 := allCubes_of frOk_all h.hn h.hm h.hu h.hum
  unfold frOk at h1
  rw [show n - pc m = k by omega] at h1
  have h2 := List.all_eq_true.mp h1 m' (List.mem_range.mpr h'.hm)
  have h3 := List.all_eq_true.mp h2 u' (mem_subs.mpr ⟨h'.hu, h'.hum⟩)
  rw [Bool.and_eq_true, beq_iff_eq] at h3
  refine ⟨h3.1, fun i hi => ?_⟩
  have h4 := List.all_eq_true.mp h3.2 i hi
  simp only [Bool.and_eq_true, beq_iff_eq] at h4
  exact h4
theorem conL_cut {n v m u k : Nat} (h : Cb n m u) (hv : v < 2 ^ 2 ^ n) (hk : pc m + k = n) {m' u' : Nat} (h' : Cb k m' u') : conL (cutS n v m u n).2 (inX k m' u') = conL v (inX n (m ||| dpX n m m') (u ||| dpX n m u')) := by
  unfold conL
  rw [← (h.sub hk h').1, List.map_map]
  congr 3
  apply List.map_congr_left
  intro j hj
  unfold inX at hj
  exact cut_bit h hv hk (List.mem_range.mp (List.mem_filter.mp hj).1)
/-- the least depth of a subcube's table is that of the subcube -/
theorem ldC_cut {b n v m u k : Nat} (h : Cb n m u) (hv : v < 2 ^ 2 ^ n) (hk : pc m + k = n) : ∀ {d m' u' : Nat}, Cb k m' u' → pc m' + d = k → ldC b k (cutS n v m u n).2 d m' u' = ldC b n v d (m ||| dpX n m m') (u ||| dpX n m u')
  | 0, m', u', _, _ => rfl
  | d + 1, m', u', h', hp => by
    obtain ⟨f1, f2⟩ := h.subf hk h'
    rw [ldC, ldC, conL_cut h hv hk h', ← f1, bestOf_map]
    split
    · rfl
    · apply bestOf_congr
      intro i hi
      obtain ⟨h1, h2, h3⟩ := h'.step hi
      obtain ⟨e1, e2⟩ := f2 i hi
      have g1 := (h.subf hk h1).2
      rw [e1, e2, ldC_cut h hv hk h1 (by omega), ldC_cut h hv hk h2 (by omega)]
theorem pc_zero : pc 0 = 0 := by decide
theorem Cb.zero {k : Nat} (hk : k ≤ 4) : Cb k 0 0 := ⟨hk, Nat.two_pow_pos _, Nat.two_pow_pos _, rfl⟩
theorem ldC_whole {b c n v m u k : Nat} (hb : k ≤ b) (hb2 : n ≤ c) (h : Cb n m u) (hv : v < 2 ^ 2 ^ n) (hk : pc m + k = n) : ldC b k (cutS n v m u n).2 k 0 0 = ldC c n v k m u := by
  have hk4 : k ≤ 4 := by have := h.hn; omega
  rw [ldC_init hb (show k ≤ c by omega) (Cb.zero hk4) (by rw [pc_zero]; omega), ldC_cut h hv hk (Cb.zero hk4) (by rw [pc_zero]; omega)]
  have h2 := allCubes_of ixOk_all h.hn h.hm h.hu h.hum
  unfold ixOk at h2
  rw [Bool.and_eq_true, beq_iff_eq, beq_iff_eq] at h2
  rw [h2.2, Nat.or_zero, Nat.or_zero]
end Go.Proofs.Ythkdjccjcpneiaa.M
