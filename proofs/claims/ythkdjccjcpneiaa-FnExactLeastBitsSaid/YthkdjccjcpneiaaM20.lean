/- Protocols of tables with two sides: no program in sight. -/
import Derived.Test.YthkdjccjcpneiaaM18
namespace Go.Proofs.Ythkdjccjcpneiaa.M
open Go.RowKit Go.Proofs.YthkdjccjcpneiaaW.PrintWords Go.Proofs.YthkdjccjcpneiaaW.PrintLast
set_option linter.unusedVariables false
set_option linter.unusedSimpArgs false

/-- the inputs in a set of rows and a set of columns, row by row -/
def pxL (n k a b : Nat) : List Nat := ((List.range (2 ^ k)).filter a.testBit).flatMap fun i => ((List.range (2 ^ (n - k))).filter b.testBit).map fun j => i + j * 2 ^ k
/-- the same in the inputs' order -/
def fxL (n k a b : Nat) : List Nat := (List.range (2 ^ n)).filter fun x => a.testBit (x % 2 ^ k) && b.testBit (x / 2 ^ k)
def allL (v : Nat) (c : Bool) (l : List Nat) : Bool := l.all fun x => v.testBit x == c
/-- is a table the same on them -/
def conB (n k v a b : Nat) : Bool := allL v true (pxL n k a b) || allL v false (pxL n k a b)
theorem allL_of {v : Nat} {c : Bool} {l l' : List Nat} (h : ∀ x ∈ l', x ∈ l) (h' : allL v c l = true) : allL v c l' = true := by
  unfold allL at *
  rw [List.all_eq_true] at *
  exact fun x hx => h' x (h x hx)
theorem allL_eq {v : Nat} {c : Bool} {l l' : List Nat} (h : ∀ x ∈ l', x ∈ l) (h2 : ∀ x ∈ l, x ∈ l') : allL v c l = allL v c l' := by
  rw [Bool.eq_iff_iff]
  exact ⟨allL_of h, allL_of h2⟩
/-- a split: who sends which digit -/
def cok (a b e : Nat) : Bool := (e % 16 != 0) && (e % 16 != if e / 16 = 0 then a else b) && (andn (e % 16) (if e / 16 = 0 then a else b) == 0)
def ca0 (a e : Nat) : Nat := if e / 16 = 0 then andn a (e % 16) else a
def cb0 (b e : Nat) : Nat := if e / 16 = 0 then b else andn b (e % 16)
def ca1 (a e : Nat) : Nat := if e / 16 = 0 then e % 16 else a
def cb1 (b e : Nat) : Nat := if e / 16 = 0 then b else e % 16
def cands (a b i : Nat) : List Nat := (List.range i).filter (cok a b)
theorem cands_hit {a b i : Nat} (h : cok a b i = true) : cands a b (i + 1) = cands a b i ++ [i] := by
  unfold cands; rw [List.range_succ, List.filter_append]; simp [h]
theorem cands_miss {a b i : Nat} (h : cok a b i = false) : cands a b (i + 1) = cands a b i := by
  unfold cands; rw [List.range_succ, List.filter_append]; simp [h]
/-- the least number of bits, four if nothing is known -/
def nd (con : Nat → Nat → Bool) : Nat → Nat → Nat → Nat
  | 0, a, b => 0
  | d + 1, a, b => if con a b = true then 0 else bestOf (fun e => max (nd con d (ca0 a e) (cb0 b e)) (nd con d (ca1 a e) (cb1 b e))) 4 (cands a b 32)
theorem nd_le (con : Nat → Nat → Bool) : ∀ d a b, nd con d a b ≤ 4
  | 0, a, b => by simp [nd]
  | d + 1, a, b => by
    rw [nd]
    split
    · omega
    · exact (bestOf_le _ _ _).1
structure Sd (a b : Nat) : Prop where
  ha : 1 ≤ a
  hb : 1 ≤ b
  ha2 : a < 16
  hb2 : b < 16
def sdB (a b : Nat) : Bool := decide (1 ≤ a) && decide (1 ≤ b) && decide (a < 16) && decide (b < 16)
theorem sdB_iff {a b : Nat} : sdB a b = true ↔ Sd a b := by
  unfold sdB
  simp only [Bool.and_eq_true, decide_eq_true_eq]
  exact ⟨fun h => ⟨h.1.1.1, h.1.1.2, h.1.2, h.2⟩, fun h => ⟨⟨⟨h.ha, h.hb⟩, h.ha2⟩, h.hb2⟩⟩
def candOk (a b : Nat) : Bool := !sdB a b || (cands a b 32).all fun e => sdB (ca0 a e) (cb0 b e) && sdB (ca1 a e) (cb1 b e) && decide (ca0 a e + cb0 b e < a + b) && decide (ca1 a e + cb1 b e < a + b)
theorem candOk_all : ∀ a, a < 16 → ∀ b, b < 16 → candOk a b = true := allB_dec2 (P := fun a b => candOk a b = true) (by decide +kernel)
theorem Sd.cand {a b e : Nat} (h : Sd a b) (he : e ∈ cands a b 32) : Sd (ca0 a e) (cb0 b e) ∧ Sd (ca1 a e) (cb1 b e) ∧ ca0 a e + cb0 b e < a + b ∧ ca1 a e + cb1 b e < a + b := by
  have h1 := candOk_all a h.ha2 b h.hb2
  unfold candOk at h1
  rw [sdB_iff.mpr h, Bool.not_true, Bool.false_or] at h1
  have h2 := List.all_eq_true.mp h1 e he
  simp only [Bool.and_eq_true, decide_eq_true_eq] at h2
  obtain ⟨⟨⟨p, q⟩, r⟩, s⟩ := h2
  exact ⟨sdB_iff.mp p, sdB_iff.mp q, r, s⟩
theorem nd_fuel (con : Nat → Nat → Bool) : ∀ d d' a b, Sd a b → a + b ≤ d → a + b ≤ d' → nd con d a b = nd con d' a b
  | 0, _, a, b, h, h1, _ => by have := h.ha; omega
  | _ + 1, 0, a, b, h, _, h1 => by have := h.ha; omega
  | d + 1, d' + 1, a, b, h, h1, h2 => by
    rw [nd, nd]
    split
    · rfl
    · apply bestOf_congr
      intro e he
      obtain ⟨p, q, r, s⟩ := h.cand he
      rw [nd_fuel con d d' _ _ p (by omega) (by omega), nd_fuel con d d' _ _ q (by omega) (by omega)]
/-- how many bits tell one of so many -/
def hB (a : Nat) : Nat := if pc a ≤ 1 then 0 else if pc a ≤ 2 then 1 else 2
def halfOk (a b : Nat) : Bool := !sdB a b || (hB a + hB b == 0) || (cands a b 32).any fun e => decide (hB (ca0 a e) + hB (cb0 b e) + 1 ≤ hB a + hB b) && decide (hB (ca1 a e) + hB (cb1 b e) + 1 ≤ hB a + hB b)
theorem halfOk_all : ∀ a, a < 16 → ∀ b, b < 16 → halfOk a b = true := allB_dec2 (P := fun a b => halfOk a b = true) (by decide +kernel)
theorem hB_le (a : Nat) : hB a ≤ 2 := by
  unfold hB
  split
  · omega
  · split <;> omega
/-- what is known of a predicate 'the same' -/
def Same (con : Nat → Nat → Bool) : Prop := ∀ a b, Sd a b → hB a + hB b = 0 → con a b = true
theorem nd_half {con : Nat → Nat → Bool} (hc : Same con) : ∀ d a b, Sd a b → a + b ≤ d → nd con d a b ≤ hB a + hB b
  | 0, a, b, h, h1 => by have := h.ha; omega
  | d + 1, a, b, h, h1 => by
    rw [nd]
    split
    · omega
    · rename_i hn
      have h2 := halfOk_all a h.ha2 b h.hb2
      unfold halfOk at h2
      have h3 : ¬ hB a + hB b = 0 := fun e => hn (hc a b h e)
      rw [sdB_iff.mpr h, Bool.not_true, Bool.false_or, beq_eq_false_iff_ne.mpr h3, Bool.false_or] at h2
      obtain ⟨e, he, h4⟩ := List.any_eq_true.mp h2
      simp only [Bool.and_eq_true, decide_eq_true_eq] at h4
      obtain ⟨p, q, r, s⟩ := h.cand he
      have a1 := nd_half hc d _ _ p (by omega)
      have a2 := nd_half hc d _ _ q (by omega)
      have := (bestOf_le (fun e => max (nd con d (ca0 a e) (cb0 b e)) (nd con d (ca1 a e) (cb1 b e))) (cands a b 32) 4).2 e he
      omega
theorem bestOf_got (g : Nat → Nat) : ∀ (l : List Nat) (b : Nat), bestOf g b l = b ∨ ∃ i ∈ l, bestOf g b l = 1 + g i
  | [], b => .inl rfl
  | x :: t, b => by
    have e : bestOf g b (x :: t) = bestOf g (min b (1 + g x)) t := rfl
    rw [e]
    rcases bestOf_got g t (min b (1 + g x)) with h | ⟨i, hi, h⟩
    · rw [h]
      rcases Nat.le_total b (1 + g x) with h1 | h1
      · left; omega
      · right; exact ⟨x, List.mem_cons_self .., by omega⟩
    · exact .inr ⟨i, List.mem_cons_of_mem _ hi, h⟩
/-- with no bound told it is the least of the splits -/
theorem nd_got {con : Nat → Nat → Bool} (hc : Same con) {d a b : Nat} (h : Sd a b) (hd : a + b ≤ d) (hn : ¬ con a b = true) :
    (∃ e ∈ cands a b 32, nd con d a b = 1 + max (nd con d (ca0 a e) (cb0 b e)) (nd con d (ca1 a e) (cb1 b e))) ∧ ∀ e ∈ cands a b 32, nd con d a b ≤ 1 + max (nd con d (ca0 a e) (cb0 b e)) (nd con d (ca1 a e) (cb1 b e)) := by
  obtain ⟨d, rfl⟩ : ∃ q, d = q + 1 := ⟨d - 1, by have := h.ha; omega⟩
  have hf : ∀ e ∈ cands a b 32, nd con (d + 1) (ca0 a e) (cb0 b e) = nd con d (ca0 a e) (cb0 b e) ∧ nd con (d + 1) (ca1 a e) (cb1 b e) = nd con d (ca1 a e) (cb1 b e) := fun e he => by
    obtain ⟨p, q, r, s⟩ := h.cand he
    exact ⟨nd_fuel con _ _ _ _ p (by omega) (by omega), nd_fuel con _ _ _ _ q (by omega) (by omega)⟩
  have hv : nd con (d + 1) a b = bestOf (fun e => max (nd con d (ca0 a e) (cb0 b e)) (nd con d (ca1 a e) (cb1 b e))) 4 (cands a b 32) := by rw [nd, if_neg hn]
  constructor
  · rcases bestOf_got (fun e => max (nd con d (ca0 a e) (cb0 b e)) (nd con d (ca1 a e) (cb1 b e))) (cands a b 32) 4 with h1 | ⟨e, he, h1⟩
    · have h2 := halfOk_all a h.ha2 b h.hb2
      unfold halfOk at h2
      have h3 : ¬ hB a + hB b = 0 := fun e => hn (hc a b h e)
      rw [sdB_iff.mpr h, Bool.not_true, Bool.false_or, beq_eq_false_iff_ne.mpr h3, Bool.false_or] at h2
      obtain ⟨e, he, h4⟩ := List.any_eq_true.mp h2
      simp only [Bool.and_eq_true, decide_eq_true_eq] at h4
      obtain ⟨p, q, r, s⟩ := h.cand he
      have a1 := nd_half hc d _ _ p (by omega)
      have a2 := nd_half hc d _ _ q (by omega)
      have b1 := hB_le a
      have b2 := hB_le b
      have := (bestOf_le (fun e => max (nd con d (ca0 a e) (cb0 b e)) (nd con d (ca1 a e) (cb1 b e))) (cands a b 32) 4).2 e he
      refine ⟨e, he, ?_⟩
      rw [hv, (hf e he).1, (hf e he).2]
      omega
    · exact ⟨e, he, by rw [hv, (hf e he).1, (hf e he).2]; exact h1⟩
  · intro e he
    rw [hv, (hf e he).1, (hf e he).2]
    exact (bestOf_le _ _ _).2 e he

/-! the reference's walk: halves of a set, from the greatest on -/
def vis (a : Nat) : Nat → Nat → List Nat
  | 0, _ => []
  | f + 1, x => if x = 0 then [] else if x < a - x then vis a f ((x - 1) &&& a) else x :: vis a f ((x - 1) &&& a)
def visOk (a : Nat) : Bool := (a == 0) || (((vis a 16 ((a - 1) &&& a)).all fun x => decide (0 < x) && decide (x < a) && (andn x a == 0) && (andn a x == a - x)) && (List.range 16).all fun g => (g == 0) || (g == a) || (andn g a != 0) || ((vis a 16 ((a - 1) &&& a)).contains g || (vis a 16 ((a - 1) &&& a)).contains (a - g)))
theorem visOk_all : ∀ a, a < 16 → visOk a = true := allB_dec (P := fun a => visOk a = true) (by decide +kernel)
theorem vis_mem {a x : Nat} (ha : 1 ≤ a) (ha2 : a < 16) (h : x ∈ vis a 16 ((a - 1) &&& a)) : 0 < x ∧ x < a ∧ andn x a = 0 ∧ andn a x = a - x := by
  have h1 := visOk_all a ha2
  unfold visOk at h1
  rw [beq_eq_false_iff_ne.mpr (by omega), Bool.false_or, Bool.and_eq_true] at h1
  have h2 := List.all_eq_true.mp h1.1 x h
  simp only [Bool.and_eq_true, decide_eq_true_eq, beq_iff_eq] at h2
  exact ⟨h2.1.1.1, h2.1.1.2, h2.1.2, h2.2⟩
theorem vis_all {a g : Nat} (ha : 1 ≤ a) (ha2 : a < 16) (hg : g < 16) (h0 : g ≠ 0) (h1 : g ≠ a) (h2 : andn g a = 0) : g ∈ vis a 16 ((a - 1) &&& a) ∨ a - g ∈ vis a 16 ((a - 1) &&& a) := by
  have h3 := visOk_all a ha2
  unfold visOk at h3
  rw [beq_eq_false_iff_ne.mpr (by omega), Bool.false_or, Bool.and_eq_true] at h3
  have h4 := List.all_eq_true.mp h3.2 g (List.mem_range.mpr hg)
  rw [beq_eq_false_iff_ne.mpr h0, beq_eq_false_iff_ne.mpr h1, h2] at h4
  simp only [Bool.false_or, bne_self_eq_false, Bool.or_eq_true, List.contains_iff_mem] at h4
  exact h4
/-- what A's and B's splits lead to -/
def gA (con : Nat → Nat → Bool) (d a b x : Nat) : Nat := max (nd con d x b) (nd con d (a - x) b)
def gB (con : Nat → Nat → Bool) (d a b y : Nat) : Nat := max (nd con d a y) (nd con d a (b - y))
theorem andn_sub {a g : Nat} (ha : a < 16) (hg : g < 16) (h : andn g a = 0) : andn a g = a - g := by
  have : ∀ a, a < 16 → ∀ g, g < 16 → andn g a = 0 → andn a g = a - g := allB_dec2 (P := fun a g => andn g a = 0 → andn a g = a - g) (by decide +kernel)
  exact this a ha g hg h
theorem le_of_andn {a g : Nat} (ha : a < 16) (hg : g < 16) (h : andn g a = 0) : g ≤ a := by
  have : ∀ a, a < 16 → ∀ g, g < 16 → andn g a = 0 → g ≤ a := allB_dec2 (P := fun a g => andn g a = 0 → g ≤ a) (by decide +kernel)
  exact this a ha g hg h
/-- both walks find the same -/
theorem least_vis {con : Nat → Nat → Bool} (hc : Same con) {d a b s : Nat} (h : Sd a b) (hd : a + b ≤ d) (hn : ¬ con a b = true) :
    bestOf (gB con d a b) (bestOf (gA con d a b) s (vis a 16 ((a - 1) &&& a))) (vis b 16 ((b - 1) &&& b)) = min (nd con d a b) s := by
  obtain ⟨⟨e, he, h1⟩, h2⟩ := nd_got hc h hd hn
  have hle : ∀ e, cok a b e = true → e < 32 → nd con d a b ≤ 1 + max (nd con d (ca0 a e) (cb0 b e)) (nd con d (ca1 a e) (cb1 b e)) := fun e he hlt => h2 e (by unfold cands; exact List.mem_filter.mpr ⟨List.mem_range.mpr hlt, he⟩)
  -- every visited half is a split
  have fA : ∀ x ∈ vis a 16 ((a - 1) &&& a), nd con d a b ≤ 1 + gA con d a b x := fun x hx => by
    obtain ⟨q1, q2, q3, q4⟩ := vis_mem h.ha h.ha2 hx
    have hx16 : x < 16 := by have := h.ha2; omega
    have := hle x (by unfold cok; rw [Nat.mod_eq_of_lt hx16, Nat.div_eq_of_lt hx16, if_pos rfl, q3]; simp; omega) (by omega)
    unfold ca0 ca1 cb0 cb1 at this
    rw [Nat.mod_eq_of_lt hx16, Nat.div_eq_of_lt hx16, if_pos rfl, if_pos rfl, if_pos rfl, if_pos rfl, q4] at this
    unfold gA; omega
  have fB : ∀ y ∈ vis b 16 ((b - 1) &&& b), nd con d a b ≤ 1 + gB con d a b y := fun x hx => by
    obtain ⟨q1, q2, q3, q4⟩ := vis_mem h.hb h.hb2 hx
    have hx16 : x < 16 := by have := h.hb2; omega
    have e1 : (16 + x) % 16 = x := by omega
    have e2 : ¬ (16 + x) / 16 = 0 := by omega
    have := hle (16 + x) (by unfold cok; rw [e1, if_neg e2, q3]; simp; omega) (by omega)
    unfold ca0 ca1 cb0 cb1 at this
    rw [e1, if_neg e2, if_neg e2, if_neg e2, if_neg e2, q4] at this
    unfold gB; omega
  -- the best split is visited, itself or its other side
  have he2 : e < 32 ∧ cok a b e = true := by
    unfold cands at he
    have := List.mem_filter.mp he
    exact ⟨List.mem_range.mp this.1, this.2⟩
  obtain ⟨hlt, hck⟩ := he2
  have l1 := bestOf_le (gA con d a b) (vis a 16 ((a - 1) &&& a)) s
  have l2 := bestOf_le (gB con d a b) (vis b 16 ((b - 1) &&& b)) (bestOf (gA con d a b) s (vis a 16 ((a - 1) &&& a)))
  have g2 := bestOf_got (gB con d a b) (vis b 16 ((b - 1) &&& b)) (bestOf (gA con d a b) s (vis a 16 ((a - 1) &&& a)))
  have g1 := bestOf_got (gA con d a b) (vis a 16 ((a - 1) &&& a)) s
  have lower : min (nd con d a b) s ≤ bestOf (gB con d a b) (bestOf (gA con d a b) s (vis a 16 ((a - 1) &&& a))) (vis b 16 ((b - 1) &&& b)) := by
    have low1 : min (nd con d a b) s ≤ bestOf (gA con d a b) s (vis a 16 ((a - 1) &&& a)) := by
      rcases g1 with g1 | ⟨x, hx, g1⟩
      · omega
      · have := fA x hx; omega
    rcases g2 with g2 | ⟨y, hy, g2⟩
    · omega
    · have := fB y hy; omega
  have upper : bestOf (gB con d a b) (bestOf (gA con d a b) s (vis a 16 ((a - 1) &&& a))) (vis b 16 ((b - 1) &&& b)) ≤ nd con d a b := by
    unfold cok at hck
    have hm16 : e % 16 < 16 := Nat.mod_lt _ (by omega)
    rw [h1]
    unfold ca0 ca1 cb0 cb1
    by_cases hw : e / 16 = 0
    · simp only [if_pos hw, Bool.and_eq_true, bne_iff_ne, beq_iff_eq] at hck ⊢
      rw [andn_sub h.ha2 hm16 hck.2]
      have hle := le_of_andn h.ha2 hm16 hck.2
      rcases vis_all h.ha h.ha2 hm16 hck.1.1 hck.1.2 hck.2 with hv | hv
      · have := l1.2 _ hv; rw [show gA con d a b (e % 16) = max (nd con d (e % 16) b) (nd con d (a - e % 16) b) from rfl] at this; omega
      · have := l1.2 _ hv; rw [show gA con d a b (a - e % 16) = max (nd con d (a - e % 16) b) (nd con d (a - (a - e % 16)) b) from rfl, Nat.sub_sub_self hle] at this; omega
    · simp only [if_neg hw, Bool.and_eq_true, bne_iff_ne, beq_iff_eq] at hck ⊢
      rw [andn_sub h.hb2 hm16 hck.2]
      have hle := le_of_andn h.hb2 hm16 hck.2
      rcases vis_all h.hb h.hb2 hm16 hck.1.1 hck.1.2 hck.2 with hv | hv
      · have := l2.2 _ hv; rw [show gB con d a b (e % 16) = max (nd con d a (e % 16)) (nd con d a (b - e % 16)) from rfl] at this; omega
      · have := l2.2 _ hv; rw [show gB con d a b (b - e % 16) = max (nd con d a (b - e % 16)) (nd con d a (b - (b - e % 16))) from rfl, Nat.sub_sub_self hle] at this; omega
  omega
/-! the same inputs, either way -/
def sidesOk (n k : Nat) : Bool := decide (n < k) || decide (2 < n - k) || (List.range 16).all fun a => (List.range 16).all fun b => ((fxL n k a b).all fun x => (pxL n k a b).contains x) && ((pxL n k a b).all fun x => (fxL n k a b).contains x) && (!(hB a + hB b == 0) || decide ((pxL n k a b).length ≤ 1)) && (decide (2 ^ 2 ^ k ≤ a) || decide (2 ^ 2 ^ (n - k) ≤ b) || (a == 0) || (b == 0) || !(pxL n k a b).isEmpty)
theorem sidesOk_all : ∀ n, n < 5 → ∀ k, k < 3 → sidesOk n k = true := allB_dec2 (P := fun n k => sidesOk n k = true) (by decide +kernel)
structure Sp (n k : Nat) : Prop where
  hn : n ≤ 4
  hk : k ≤ 2
  hkn : k ≤ n
  hl : n - k ≤ 2
theorem Sp.at {n k a b : Nat} (h : Sp n k) (ha : a < 16) (hb : b < 16) : (∀ x, x ∈ fxL n k a b ↔ x ∈ pxL n k a b) ∧ (hB a + hB b = 0 → (pxL n k a b).length ≤ 1) ∧ (a < 2 ^ 2 ^ k → b < 2 ^ 2 ^ (n - k) → a ≠ 0 → b ≠ 0 → pxL n k a b ≠ []) := by
  have h1 := sidesOk_all n (by have := h.hn; omega) k (by have := h.hk; omega)
  unfold sidesOk at h1
  rw [decide_eq_false (by have := h.hkn; omega), decide_eq_false (by have := h.hl; omega), Bool.false_or, Bool.false_or] at h1
  have h2 := List.all_eq_true.mp (List.all_eq_true.mp h1 a (List.mem_range.mpr ha)) b (List.mem_range.mpr hb)
  simp only [Bool.and_eq_true] at h2
  obtain ⟨⟨⟨p, q⟩, r⟩, s⟩ := h2
  refine ⟨fun x => ⟨fun hx => by simpa using List.all_eq_true.mp p x hx, fun hx => by simpa using List.all_eq_true.mp q x hx⟩, fun h0 => by rw [h0] at r; simpa using r, fun h1 h2 h3 h4 e => ?_⟩
  rw [decide_eq_false (by omega), decide_eq_false (by omega), beq_eq_false_iff_ne.mpr h3, beq_eq_false_iff_ne.mpr h4, e] at s
  cases s
theorem Sp.same {n k : Nat} (h : Sp n k) (v : Nat) : Same (conB n k v) := by
  intro a b hs h0
  have h1 := (h.at hs.ha2 hs.hb2).2.1 h0
  unfold conB allL
  generalize pxL n k a b = l at h1
  cases l with
  | nil => rfl
  | cons x t =>
    cases t with
    | nil => simp
    | cons y t => simp at h1
theorem Sp.conf {n k a b : Nat} (h : Sp n k) (v : Nat) (ha : a < 16) (hb : b < 16) : conB n k v a b = (allL v true (fxL n k a b) || allL v false (fxL n k a b)) := by
  have h1 := (h.at ha hb).1
  unfold conB
  rw [allL_eq (fun x hx => (h1 x).mp hx) (fun x hx => (h1 x).mpr hx), allL_eq (c := false) (fun x hx => (h1 x).mp hx) (fun x hx => (h1 x).mpr hx)]
end Go.Proofs.Ythkdjccjcpneiaa.M
