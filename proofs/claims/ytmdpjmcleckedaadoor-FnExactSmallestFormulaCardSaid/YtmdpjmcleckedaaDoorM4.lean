/- Maps of bits: sums of columns, and when columns are independent: no program in sight. -/
import Derived.Test.YtmdpjmcleckedaaDoorM2
namespace Go.Proofs.YtmdpjmcleckedaaDoor.M
open Go.RowKit Go.Proofs.YtmdpjmcleckedaaDoorW.PrintWords Go.Proofs.YtmdpjmcleckedaaDoorW.PrintLast
set_option linter.unusedVariables false
set_option linter.unusedSimpArgs false

/-- the sum of those of the first i columns whose variables are 1 -/
def img (g : Nat → Nat) (x : Nat) : Nat → Nat
  | 0 => 0
  | i + 1 => if x.testBit i = true then img g x i ^^^ g i else img g x i
theorem img_congr {g g' : Nat → Nat} {x : Nat} : ∀ {i : Nat}, (∀ j, j < i → g j = g' j) → img g x i = img g' x i
  | 0, _ => rfl
  | i + 1, h => by rw [img, img, img_congr (fun j hj => h j (by omega)), h i (by omega)]
theorem img_congr_x {g : Nat → Nat} {x y : Nat} : ∀ {i : Nat}, (∀ j, j < i → x.testBit j = y.testBit j) → img g x i = img g y i
  | 0, _ => rfl
  | i + 1, h => by rw [img, img, img_congr_x (fun j hj => h j (by omega)), h i (by omega)]
theorem img_lt {g : Nat → Nat} {N : Nat} (x : Nat) : ∀ {i : Nat}, (∀ j, j < i → g j < 2 ^ N) → img g x i < 2 ^ N
  | 0, _ => Nat.two_pow_pos _
  | i + 1, h => by
    have h1 := img_lt (g := g) (N := N) x (fun j hj => h j (Nat.lt_succ_of_lt hj))
    rw [img]
    split
    · exact Nat.xor_lt_two_pow h1 (h i (Nat.lt_succ_self i))
    · exact h1
theorem img_xor (g : Nat → Nat) (x y : Nat) : ∀ i, img g (x ^^^ y) i = img g x i ^^^ img g y i
  | 0 => by simp [img]
  | i + 1 => by
    have ih := img_xor g x y i
    simp only [img, Nat.testBit_xor, ih]
    cases x.testBit i <;> cases y.testBit i <;> simp
    · rw [Nat.xor_assoc]
    · rw [Nat.xor_assoc, Nat.xor_comm (img g y i) (g i), ← Nat.xor_assoc]
    · rw [Nat.xor_assoc, Nat.xor_comm (g i), Nat.xor_assoc, Nat.xor_self, Nat.xor_zero]
theorem img_zero (g : Nat → Nat) : ∀ i, img g 0 i = 0
  | 0 => rfl
  | i + 1 => by rw [img, img_zero g i]; simp
theorem img_low {g : Nat → Nat} {x i : Nat} (h : x < 2 ^ i) : ∀ d, img g x (i + d) = img g x i
  | 0 => rfl
  | d + 1 => by rw [← Nat.add_assoc, img, testBit_of_ge h (by omega), img_low h d]; simp
theorem img_top {g : Nat → Nat} {x i : Nat} (h : x < 2 ^ i) : img g (2 ^ i + x) (i + 1) = img g x i ^^^ g i := by
  have e : (2 ^ i + x).testBit i = true := by rw [Nat.testBit_two_pow_add_eq, testBit_of_ge h (Nat.le_refl _)]; rfl
  rw [img, e, if_pos rfl]
  congr 1
  exact img_congr_x (fun j hj => by rw [Nat.testBit_two_pow_add_gt hj])
theorem img_one {g : Nat → Nat} {i n : Nat} (h : i < n) : img g (2 ^ i) n = g i := by
  have h0 : (0 : Nat) < 2 ^ i := Nat.two_pow_pos i
  have e := img_top (g := g) h0
  rw [Nat.add_zero, img_zero, Nat.zero_xor] at e
  have hl : 2 ^ i < 2 ^ (i + 1) := Nat.pow_lt_pow_right (by decide) (by omega)
  have := img_low (g := g) hl (n - (i + 1))
  rw [show i + 1 + (n - (i + 1)) = n by omega] at this
  rw [this, e]

/-! a list of numbers, each made less by those before it -/
def red : List Nat → Nat → Nat
  | [], x => x
  | b :: t, x => red t (min x (x ^^^ b))
/-- c has not the leading bit of b -/
def Clear (b c : Nat) : Prop := min c (c ^^^ b) = c
theorem min_lt {x b : Nat} (hx : x < 32) (hb : b < 32) : min x (x ^^^ b) < 32 := Nat.lt_of_le_of_lt (Nat.min_le_left _ _) hx
theorem clear_xor : ∀ b, b < 32 → ∀ x, x < 32 → ∀ c, c < 32 → (min c (c ^^^ b) = c → min (x ^^^ c) ((x ^^^ c) ^^^ b) = min x (x ^^^ b) ^^^ c) :=
  allB_dec3 (P := fun b x c => min c (c ^^^ b) = c → min (x ^^^ c) ((x ^^^ c) ^^^ b) = min x (x ^^^ b) ^^^ c) (by decide +kernel)
theorem clear_self : ∀ b, b < 32 → ∀ x, x < 32 → (min (min x (x ^^^ b)) (min x (x ^^^ b) ^^^ b) = min x (x ^^^ b) ∧ min (x ^^^ b) ((x ^^^ b) ^^^ b) = min x (x ^^^ b)) :=
  allB_dec2 (P := fun b x => min (min x (x ^^^ b)) (min x (x ^^^ b) ^^^ b) = min x (x ^^^ b) ∧ min (x ^^^ b) ((x ^^^ b) ^^^ b) = min x (x ^^^ b)) (by decide +kernel)
theorem x32 {a b : Nat} (ha : a < 32) (hb : b < 32) : a ^^^ b < 32 := Nat.xor_lt_two_pow (n := 5) ha hb
theorem red_lt : ∀ {l : List Nat} {x : Nat}, (∀ b ∈ l, b < 32) → x < 32 → red l x < 32
  | [], _, _, hx => hx
  | b :: t, x, h, hx => red_lt (l := t) (fun c hc => h c (List.mem_cons_of_mem _ hc)) (min_lt hx (h b List.mem_cons_self))
theorem red_append : ∀ (l : List Nat) (r x : Nat), red (l ++ [r]) x = min (red l x) (red l x ^^^ r)
  | [], _, _ => rfl
  | b :: t, r, x => by rw [List.cons_append, red, red_append t r]; rfl
theorem red_zero : ∀ l : List Nat, red l 0 = 0
  | [] => rfl
  | b :: t => by rw [red, Nat.zero_min, red_zero t]
/-- what a list takes away is a sum of the list's own -/
theorem red_diff {P : Nat → Prop} (hz : P 0) (hx : ∀ a b, P a → P b → P (a ^^^ b)) : ∀ {l : List Nat} {x : Nat}, (∀ b ∈ l, P b) → P (red l x ^^^ x)
  | [], x, _ => by rw [red, Nat.xor_self]; exact hz
  | b :: t, x, h => by
    have ih := red_diff hz hx (l := t) (x := min x (x ^^^ b)) (fun c hc => h c (List.mem_cons_of_mem _ hc))
    rw [red]
    by_cases e : x ≤ x ^^^ b
    · rw [Nat.min_eq_left e] at ih ⊢; exact ih
    · rw [Nat.min_eq_right (by omega)] at ih ⊢
      have := hx _ _ ih (h b List.mem_cons_self)
      rw [Nat.xor_assoc, Nat.xor_assoc, Nat.xor_self, Nat.xor_zero] at this
      exact this
theorem red_inv : ∀ {l : List Nat} {c y : Nat}, (∀ b ∈ l, b < 32) → l.Pairwise Clear → c ∈ l → y < 32 → red l (y ^^^ c) = red l y
  | b :: t, c, y, hl, hp, hc, hy => by
    have hb := hl b List.mem_cons_self
    have ht : ∀ c ∈ t, c < 32 := fun c hc => hl c (List.mem_cons_of_mem _ hc)
    obtain ⟨hp1, hp2⟩ := List.pairwise_cons.mp hp
    rw [red, red]
    rcases List.mem_cons.mp hc with rfl | hc'
    · rw [(clear_self _ hb _ hy).2]
    · rw [clear_xor _ hb _ hy _ (ht _ hc') (hp1 _ hc')]
      exact red_inv ht hp2 hc' (min_lt hy hb)
theorem red_keeps : ∀ {l : List Nat} {b y : Nat}, b < 32 → y < 32 → (∀ c ∈ l, c < 32) → (∀ c ∈ l, Clear b c) → Clear b y → Clear b (red l y)
  | [], _, _, _, _, _, _, h => h
  | c :: t, b, y, hb, hy, hl, hc, h => by
    have hc32 := hl c List.mem_cons_self
    rw [red]
    refine red_keeps hb (min_lt hy hc32) (fun d hd => hl d (List.mem_cons_of_mem _ hd)) (fun d hd => hc d (List.mem_cons_of_mem _ hd)) ?_
    by_cases e : y ≤ y ^^^ c
    · rw [Nat.min_eq_left e]; exact h
    · rw [Nat.min_eq_right (by omega)]
      unfold Clear
      rw [clear_xor _ hb _ hy _ hc32 (hc c List.mem_cons_self), h]
theorem red_clear : ∀ {l : List Nat} {y : Nat}, (∀ b ∈ l, b < 32) → l.Pairwise Clear → y < 32 → ∀ b ∈ l, Clear b (red l y)
  | b :: t, y, hl, hp, hy, c, hc => by
    have hb := hl b List.mem_cons_self
    have ht : ∀ c ∈ t, c < 32 := fun c hc => hl c (List.mem_cons_of_mem _ hc)
    obtain ⟨hp1, hp2⟩ := List.pairwise_cons.mp hp
    rw [red]
    rcases List.mem_cons.mp hc with rfl | hc'
    · exact red_keeps hb (min_lt hy hb) ht hp1 (clear_self _ hb _ hy).1
    · exact red_clear ht hp2 (min_lt hy hb) c hc'

/-- the list after i columns -/
def basis (g : Nat → Nat) : Nat → List Nat
  | 0 => []
  | i + 1 => if red (basis g i) (g i) > 0 then basis g i ++ [red (basis g i) (g i)] else basis g i
theorem basis_le (g : Nat → Nat) : ∀ i, (basis g i).length ≤ i
  | 0 => Nat.le_refl _
  | i + 1 => by have := basis_le g i; rw [basis]; split <;> simp <;> omega
theorem basis_mono (g : Nat → Nat) (i : Nat) : ∀ d, (basis g (i + d)).length ≤ (basis g i).length + d
  | 0 => Nat.le_refl _
  | d + 1 => by have := basis_mono g i d; rw [← Nat.add_assoc, basis]; split <;> simp <;> omega
theorem basis_step {g : Nat → Nat} {i : Nat} (h : (basis g (i + 1)).length = i + 1) : (basis g i).length = i ∧ red (basis g i) (g i) > 0 := by
  have h1 := basis_le g i
  rw [basis] at h
  by_cases hr : red (basis g i) (g i) > 0
  · rw [if_pos hr] at h; simp at h; exact ⟨h, hr⟩
  · rw [if_neg hr] at h; omega
theorem basis_down {g : Nat → Nat} {n i : Nat} (h : (basis g n).length = n) (hi : i ≤ n) : (basis g i).length = i := by
  have h1 := basis_mono g i (n - i)
  rw [show i + (n - i) = n by omega, h] at h1
  have := basis_le g i
  omega
/-- what the list after i columns is, if each of them gave one -/
structure Tri (g : Nat → Nat) (i : Nat) : Prop where
  lt : ∀ b ∈ basis g i, b < 32
  pw : (basis g i).Pairwise Clear
  inn : ∀ b ∈ basis g i, ∃ x, x < 2 ^ i ∧ b = img g x i
  same : ∀ j, j < i → ∀ y, y < 32 → red (basis g i) (y ^^^ g j) = red (basis g i) y
theorem xor_mid (a b c : Nat) : a ^^^ (b ^^^ c) = a ^^^ b ^^^ c := (Nat.xor_assoc a b c).symm
theorem xor_back (a b : Nat) : a ^^^ (a ^^^ b) = b := by rw [← Nat.xor_assoc, Nat.xor_self, Nat.zero_xor]
theorem Tri.step {g : Nat → Nat} {i : Nat} (hg : ∀ j, j ≤ i → g j < 32) (T : Tri g i) (hr : red (basis g i) (g i) > 0) : Tri g (i + 1) := by
  have hgi := hg i (Nat.le_refl _)
  have hrl := red_lt T.lt hgi
  have hb : basis g (i + 1) = basis g i ++ [red (basis g i) (g i)] := by rw [basis, if_pos hr]
  have hcl := red_clear T.lt T.pw hgi
  have hd := red_diff (P := fun v => ∃ x, x < 2 ^ i ∧ v = img g x i) ⟨0, Nat.two_pow_pos _, (img_zero g i).symm⟩ (fun a b ⟨x, hx, ea⟩ ⟨y, hy, eb⟩ => ⟨x ^^^ y, Nat.xor_lt_two_pow hx hy, by rw [img_xor, ← ea, ← eb]⟩) (l := basis g i) (x := g i) T.inn
  have hlt : ∀ b ∈ basis g (i + 1), b < 32 := fun b hb' => by
    rw [hb] at hb'
    rcases List.mem_append.mp hb' with h | h
    · exact T.lt b h
    · rw [List.mem_singleton.mp h]; exact hrl
  have hpw : (basis g (i + 1)).Pairwise Clear := by
    rw [hb, List.pairwise_append]
    exact ⟨T.pw, List.pairwise_singleton _ _, fun b hb' c hc => by rw [List.mem_singleton.mp hc]; exact hcl b hb'⟩
  refine ⟨hlt, hpw, ?_, ?_⟩
  · intro b hb'
    rw [hb] at hb'
    rcases List.mem_append.mp hb' with h | h
    · obtain ⟨x, hx, e⟩ := T.inn b h
      exact ⟨x, Nat.lt_of_lt_of_le hx (Nat.pow_le_pow_right (by decide) (by omega)), by rw [e, img_low hx 1]⟩
    · rw [List.mem_singleton.mp h]
      obtain ⟨x, hx, e⟩ := hd
      refine ⟨2 ^ i + x, by rw [Nat.pow_succ]; omega, ?_⟩
      rw [img_top hx, ← e, Nat.xor_assoc, Nat.xor_self, Nat.xor_zero]
  · intro j hj y hy
    by_cases e : j = i
    · subst e
      have hq := red_diff (P := fun v => v < 32 ∧ ∀ y, y < 32 → red (basis g (j + 1)) (y ^^^ v) = red (basis g (j + 1)) y) ⟨by decide, fun y _ => by rw [Nat.xor_zero]⟩
        (fun a b ⟨ha, h1⟩ ⟨hb, h2⟩ => ⟨x32 ha hb, fun y hy => by rw [xor_mid, h2 _ (x32 hy ha), h1 _ hy]⟩) (l := basis g j) (x := g j)
        (fun b hb' => ⟨T.lt b hb', fun y hy => red_inv hlt hpw (by rw [hb]; exact List.mem_append_left _ hb') hy⟩)
      obtain ⟨q1, q2⟩ := hq
      have hrr : red (basis g (j + 1)) (y ^^^ red (basis g j) (g j)) = red (basis g (j + 1)) y := red_inv hlt hpw (by rw [hb]; exact List.mem_append_right _ List.mem_cons_self) hy
      rw [← hrr, ← q2 _ (x32 hy hrl)]
      congr 1
      rw [Nat.xor_assoc, xor_back]
    · rw [hb, red_append, red_append, T.same j (by omega) y hy]
theorem Tri.img_red {g : Nat → Nat} {i : Nat} (hg : ∀ j, j < i → g j < 32) (T : Tri g i) (x : Nat) : ∀ j, j ≤ i → ∀ y, y < 32 → red (basis g i) (y ^^^ img g x j) = red (basis g i) y
  | 0, _, y, _ => by rw [img, Nat.xor_zero]
  | j + 1, hj, y, hy => by
    have h5 : img g x j < 32 := img_lt (N := 5) x (fun k hk => hg k (by omega))
    rw [img]
    split
    · rw [xor_mid, T.same j (by omega) _ (x32 hy h5)]; exact T.img_red hg x j (by omega) y hy
    · exact T.img_red hg x j (by omega) y hy
theorem Tri.of {g : Nat → Nat} : ∀ {i : Nat}, (∀ j, j < i → g j < 32) → (basis g i).length = i → Tri g i
  | 0, _, _ => ⟨by simp [basis], by simp [basis], by simp [basis], fun j hj => by omega⟩
  | i + 1, hg, h => by
    obtain ⟨h1, h2⟩ := basis_step h
    exact (Tri.of (fun j hj => hg j (by omega)) h1).step (fun j hj => hg j (by omega)) h2
/-- columns are independent: no sum of some of them is 0 -/
def Indep (g : Nat → Nat) (n : Nat) : Prop := ∀ x, 1 ≤ x → x < 2 ^ n → img g x n ≠ 0
theorem indep_of_basis {g : Nat → Nat} : ∀ {i : Nat}, (∀ j, j < i → g j < 32) → (basis g i).length = i → Indep g i
  | 0, _, _ => fun x h1 h2 => by simp at h2; omega
  | i + 1, hg, h => by
    obtain ⟨h1, h2⟩ := basis_step h
    have ih := indep_of_basis (fun j hj => hg j (by omega)) h1
    have T := Tri.of (fun j hj => hg j (by omega)) h1
    intro x hx hx2 h0
    by_cases hl : x < 2 ^ i
    · rw [img_low hl 1] at h0; exact ih x hx hl h0
    · obtain ⟨y, rfl⟩ : ∃ y, x = 2 ^ i + y := ⟨x - 2 ^ i, by omega⟩
      have hy : y < 2 ^ i := by rw [Nat.pow_succ] at hx2; omega
      rw [img_top hy] at h0
      have e : g i = img g y i := by
        have := congrArg (fun v => img g y i ^^^ v) h0
        simp only [xor_back, Nat.xor_zero] at this
        exact this
      have := T.img_red (fun j hj => hg j (by omega)) y i (Nat.le_refl _) 0 (by decide)
      rw [Nat.zero_xor, ← e, red_zero] at this
      omega
theorem basis_of_indep {g : Nat → Nat} {n : Nat} (hg : ∀ j, j < n → g j < 32) (hi : Indep g n) : ∀ i, i ≤ n → (basis g i).length = i
  | 0, _ => rfl
  | i + 1, h => by
    have ih := basis_of_indep hg hi i (by omega)
    have T := Tri.of (fun j hj => hg j (by omega)) ih
    rw [basis]
    by_cases hr : red (basis g i) (g i) > 0
    · rw [if_pos hr]; simp [ih]
    · exfalso
      have hd := red_diff (P := fun v => ∃ x, x < 2 ^ i ∧ v = img g x i) ⟨0, Nat.two_pow_pos _, (img_zero g i).symm⟩ (fun a b ⟨x, hx, ea⟩ ⟨y, hy, eb⟩ => ⟨x ^^^ y, Nat.xor_lt_two_pow hx hy, by rw [img_xor, ← ea, ← eb]⟩) (l := basis g i) (x := g i) T.inn
      obtain ⟨x, hx, e⟩ := hd
      rw [show red (basis g i) (g i) = 0 by omega, Nat.zero_xor] at e
      have h2 : 2 ^ i + x < 2 ^ (i + 1) := by rw [Nat.pow_succ]; omega
      refine hi (2 ^ i + x) (by have := Nat.two_pow_pos i; omega) (Nat.lt_of_lt_of_le h2 (Nat.pow_le_pow_right (by decide) h)) ?_
      have := img_low (g := g) h2 (n - (i + 1))
      rw [show i + 1 + (n - (i + 1)) = n by omega] at this
      rw [this, img_top hx, ← e, Nat.xor_self]
theorem basis_iff {g : Nat → Nat} {n : Nat} (hg : ∀ j, j < n → g j < 32) : (basis g n).length = n ↔ Indep g n := ⟨indep_of_basis hg, fun h => basis_of_indep hg h n (Nat.le_refl _)⟩

theorem Indep.inj {g : Nat → Nat} {n x y : Nat} (h : Indep g n) (hx : x < 2 ^ n) (hy : y < 2 ^ n) (e : img g x n = img g y n) : x = y := by
  have h1 : img g (x ^^^ y) n = 0 := by rw [img_xor, e, Nat.xor_self]
  by_cases hz : x ^^^ y = 0
  · have := congrArg (fun v => x ^^^ v) hz
    simp only [xor_back, Nat.xor_zero] at this
    exact this.symm
  · exact absurd h1 (h _ (by omega) (Nat.xor_lt_two_pow hx hy))

/-- what maps the numbers below N apart from each other into them reaches them all -/
theorem reach : ∀ {N : Nat} {f : Nat → Nat}, (∀ x, x < N → f x < N) → (∀ x, x < N → ∀ y, y < N → f x = f y → x = y) → ∀ y, y < N → ∃ x, x < N ∧ f x = y
  | 0, _, _, _, y, hy => by omega
  | N + 1, f, hl, hi, y, hy => by
    have hc : ∀ x, x < N → f x = N → f N < N := fun x hx e => by
      have h1 := hl N (by omega)
      have h2 : f N ≠ N := fun e2 => by have := hi x (by omega) N (by omega) (by rw [e, e2]); omega
      omega
    have ih := reach (N := N) (f := fun x => if f x = N then f N else f x) (fun x hx => by
        have h1 := hl x (by omega)
        show (if f x = N then f N else f x) < N
        split
        · rename_i e; exact hc x hx e
        · omega) (fun x hx z hz e => by
        have e' : (if f x = N then f N else f x) = (if f z = N then f N else f z) := e
        have hN : ∀ a, a < N → f a ≠ f N := fun a ha e2 => by have := hi a (by omega) N (by omega) e2; omega
        by_cases h1 : f x = N
        · by_cases h2 : f z = N
          · exact hi x (by omega) z (by omega) (by rw [h1, h2])
          · rw [if_pos h1, if_neg h2] at e'; exact absurd e'.symm (hN z hz)
        · by_cases h2 : f z = N
          · rw [if_neg h1, if_pos h2] at e'; exact absurd e' (hN x hx)
          · rw [if_neg h1, if_neg h2] at e'; exact hi x (by omega) z (by omega) e')
    by_cases e : y = N
    · by_cases e2 : f N = N
      · exact ⟨N, by omega, by omega⟩
      · obtain ⟨x, hx, hx2⟩ := ih (f N) (by have := hl N (by omega); omega)
        have hx3 : (if f x = N then f N else f x) = f N := hx2
        by_cases h1 : f x = N
        · exact ⟨x, by omega, by omega⟩
        · rw [if_neg h1] at hx3
          have := hi x (by omega) N (by omega) hx3; omega
    · obtain ⟨x, hx, hx2⟩ := ih y (by omega)
      have hx3 : (if f x = N then f N else f x) = y := hx2
      by_cases h1 : f x = N
      · rw [if_pos h1] at hx3; exact ⟨N, by omega, hx3⟩
      · rw [if_neg h1] at hx3; exact ⟨x, by omega, hx3⟩
theorem Indep.reach {g : Nat → Nat} {n : Nat} (hg : ∀ j, j < n → g j < 2 ^ n) (h : Indep g n) {y : Nat} (hy : y < 2 ^ n) : ∃ x, x < 2 ^ n ∧ img g x n = y :=
  M.reach (f := fun x => img g x n) (fun x _ => img_lt x hg) (fun x hx y hy e => h.inj hx hy e) y hy

/-- the same as a Bool -/
def indB (g : Nat → Nat) (n : Nat) : Bool := allB (2 ^ n) (fun x => x == 0 || img g x n != 0)
theorem allB_iff {p : Nat → Bool} : ∀ {n : Nat}, allB n p = true ↔ ∀ i, i < n → p i = true
  | 0 => ⟨fun _ i hi => by omega, fun _ => rfl⟩
  | n + 1 => ⟨allB_of, fun h => by rw [allB, Bool.and_eq_true]; exact ⟨h n (by omega), allB_iff.mpr (fun i hi => h i (by omega))⟩⟩
theorem allB_false {p : Nat → Bool} {n i : Nat} (hi : i < n) (h : p i = false) : allB n p = false := by
  cases e : allB n p with
  | false => rfl
  | true => have := allB_of e i hi; rw [h] at this; cases this
theorem indB_iff {g : Nat → Nat} {n : Nat} : indB g n = true ↔ Indep g n := by
  unfold indB
  rw [allB_iff]
  constructor
  · intro h x hx hx2
    have := h x hx2
    simp only [Bool.or_eq_true, beq_iff_eq, bne_iff_ne] at this
    exact this.resolve_left (by omega)
  · intro h x hx
    simp only [Bool.or_eq_true, beq_iff_eq, bne_iff_ne]
    by_cases e : x = 0
    · exact .inl e
    · exact .inr (h x (by omega) hx)
/-- the columns of a list -/
def cols (l : List Int) (j : Nat) : Nat := (l.getD j 0).toNat
/-- is a map of n variables one that can be undone -/
def invB (n : Int) (l : List Int) : Bool := decide (0 ≤ n ∧ n ≤ 5) && (decide ((l.length : Int) = n) && (l.all (fun c => decide (0 ≤ c ∧ c < ((2 ^ n.toNat : Nat) : Int))) && indB (cols l) n.toNat))
theorem cols_of {l : List Int} {N : Nat} (h : l.all (fun c => decide (0 ≤ c ∧ c < (N : Int))) = true) {j : Nat} (hj : j < l.length) : cols l j < N ∧ l.getD j 0 = ((cols l j : Nat) : Int) := by
  rw [List.all_eq_true] at h
  have e : l.getD j 0 = l[j] := by simp [List.getD_eq_getElem?_getD, hj]
  have h1 := of_decide_eq_true (h _ (List.getElem_mem hj))
  unfold cols
  rw [e]
  omega

end Go.Proofs.YtmdpjmcleckedaaDoor.M
