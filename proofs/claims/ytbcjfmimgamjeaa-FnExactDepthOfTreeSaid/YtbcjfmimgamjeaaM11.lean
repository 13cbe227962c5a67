/- Decision trees as texts and as trees: no program in sight. -/
import Derived.Test.YtbcjfmimgamjeaaM6
namespace Go.Proofs.Ytbcjfmimgamjeaa.M
open Go.RowKit Go.Proofs.YtbcjfmimgamjeaaW.PrintWords Go.Proofs.YtbcjfmimgamjeaaW.PrintLast Go.Proofs.YtbcjfmimgamjeaaW.PrintMore
set_option linter.unusedVariables false
set_option linter.unusedSimpArgs false

/-- a tree: its sign, and what follows 0 and 1 -/
inductive Td where
  | nil
  | node (c : Int) (l r : Td)
/-- how many of five variables are not in a set -/
def fre (a : Nat) : Nat := 5 - cnt a.testBit 5
/-- a set with a variable more -/
def wth (a v : Nat) : Nat := a ||| 2 ^ v
theorem wth_fre : ∀ a, a < 32 → ∀ v, v < 5 → a.testBit v = false → (fre (wth a v) + 1 = fre a ∧ wth a v < 32 ∧ fre a ≤ 5) :=
  allB_dec2 (P := fun a v => a.testBit v = false → (fre (wth a v) + 1 = fre a ∧ wth a v < 32 ∧ fre a ≤ 5)) (by decide +kernel)
theorem fre_le (a : Nat) : fre a ≤ 5 := by unfold fre; omega
theorem wth_bit {a v u : Nat} : (wth a v).testBit u = (a.testBit u || decide (v = u)) := by rw [wth, Nat.testBit_or, Nat.testBit_two_pow]
/-- the variable of a letter -/
def vr (c : Int) : Nat := (c - 97).toNat
/-- the tree that begins at place i of a text, and the place behind it, where the variables of a don't occur -/
def tp (S : ByteArray) : Nat → Nat → Nat → Option (Td × Nat)
  | 0, _, _ => none
  | k + 1, i, a => if S.size ≤ i then none else
    if bt S i = 48 ∨ bt S i = 49 then some (.node (bt S i) .nil .nil, i + 1)
    else if ¬ (97 ≤ bt S i ∧ bt S i < 102) then none
    else if a.testBit (vr (bt S i)) = true then none
    else (tp S k (i + 1) (wth a (vr (bt S i)))).bind fun p => (tp S k p.2 (wth a (vr (bt S i)))).bind fun q => some (.node (bt S i) p.1 q.1, q.2)
/-- a tree that asks none of a, and none twice on a way -/
inductive Dt : Nat → Td → Prop
  | leaf (a : Nat) (c : Int) : c = 48 ∨ c = 49 → Dt a (.node c .nil .nil)
  | ask (a : Nat) (c : Int) (l r : Td) : 97 ≤ c ∧ c < 102 → a.testBit (vr c) = false → Dt (wth a (vr c)) l → Dt (wth a (vr c)) r → Dt a (.node c l r)
theorem tp_some {S : ByteArray} : ∀ {k i a : Nat} {T : Td} {j : Nat}, a < 32 → tp S k i a = some (T, j) → Dt a T ∧ i < j ∧ j ≤ S.size ∧ j + 1 ≤ i + 2 ^ (fre a + 1)
  | 0, i, a, T, j, ha, h => by simp [tp] at h
  | k + 1, i, a, T, j, ha, h => by
    rw [tp] at h
    by_cases h0 : S.size ≤ i
    · rw [if_pos h0] at h; cases h
    · rw [if_neg h0] at h
      have hp : 2 ^ 1 ≤ 2 ^ (fre a + 1) := Nat.pow_le_pow_right (by decide) (by omega)
      by_cases h1 : bt S i = 48 ∨ bt S i = 49
      · rw [if_pos h1] at h
        simp only [Option.some.injEq, Prod.mk.injEq] at h
        obtain ⟨rfl, rfl⟩ := h
        exact ⟨.leaf _ _ h1, by omega, by omega, by omega⟩
      · rw [if_neg h1] at h
        by_cases h2 : 97 ≤ bt S i ∧ bt S i < 102
        · rw [if_neg (fun e => e h2)] at h
          cases h3 : a.testBit (vr (bt S i)) with
          | true => rw [h3, if_pos rfl] at h; cases h
          | false =>
            rw [h3, if_neg (by decide)] at h
            obtain ⟨⟨p1, p2⟩, hp1, h⟩ := Option.bind_eq_some_iff.mp h
            obtain ⟨⟨q1, q2⟩, hq1, h⟩ := Option.bind_eq_some_iff.mp h
            simp only [Option.some.injEq, Prod.mk.injEq] at h
            obtain ⟨rfl, rfl⟩ := h
            obtain ⟨w1, w2, _⟩ := wth_fre a ha (vr (bt S i)) (by unfold vr; omega) h3
            obtain ⟨a1, a2, a3, a4⟩ := tp_some w2 hp1
            obtain ⟨b1, b2, b3, b4⟩ := tp_some w2 hq1
            refine ⟨.ask _ _ _ _ h2 h3 a1 b1, by omega, b3, ?_⟩
            simp only [] at *
            rw [w1] at a4 b4
            rw [Nat.pow_succ]; omega
        · rw [if_pos h2] at h; cases h
/-- how many variables are asked at worst -/
def Td.depth : Td → Nat
  | .nil => 0
  | .node _ .nil _ => 0
  | .node _ (.node c l r) r2 => 1 + max (Td.node c l r).depth r2.depth
/-- how many are asked for an input -/
def Td.path (x : Nat) : Td → Nat
  | .nil => 0
  | .node _ .nil _ => 0
  | .node d (.node c l r) r2 => 1 + (if x.testBit (vr d) = true then r2.path x else (Td.node c l r).path x)
/-- the value for an input -/
def Td.val (x : Nat) : Td → Int
  | .nil => 0
  | .node d .nil _ => d - 48
  | .node d (.node c l r) r2 => if x.testBit (vr d) = true then r2.val x else (Td.node c l r).val x
theorem Dt.ne {a : Nat} {T : Td} (h : Dt a T) : ∃ c l r, T = .node c l r := by cases h <;> exact ⟨_, _, _, rfl⟩
theorem depth_ask {a : Nat} (c : Int) {l : Td} (r : Td) (h : Dt a l) : (Td.node c l r).depth = 1 + max l.depth r.depth := by obtain ⟨_, _, _, rfl⟩ := h.ne; rfl
theorem path_ask {a : Nat} (x : Nat) (c : Int) {l : Td} (r : Td) (h : Dt a l) : (Td.node c l r).path x = 1 + (if x.testBit (vr c) = true then r.path x else l.path x) := by obtain ⟨_, _, _, rfl⟩ := h.ne; rfl
theorem val_ask {a : Nat} (x : Nat) (c : Int) {l : Td} (r : Td) (h : Dt a l) : (Td.node c l r).val x = (if x.testBit (vr c) = true then r.val x else l.val x) := by obtain ⟨_, _, _, rfl⟩ := h.ne; rfl
theorem Dt.depth_le {a : Nat} {T : Td} (h : Dt a T) : a < 32 → T.depth ≤ fre a := by
  induction h with
  | leaf a c h => intro _; exact Nat.zero_le _
  | ask a c l r h2 h3 hl hr ihl ihr =>
    intro ha
    obtain ⟨w1, w2, _⟩ := wth_fre a ha (vr c) (by unfold vr; omega) h3
    have := ihl w2
    have := ihr w2
    rw [depth_ask c r hl]; omega
theorem Dt.path_le {a : Nat} {T : Td} (x : Nat) (h : Dt a T) : T.path x ≤ T.depth := by
  induction h with
  | leaf a c h => exact Nat.zero_le _
  | ask a c l r h2 h3 hl hr ihl ihr =>
    rw [depth_ask c r hl, path_ask x c r hl]
    split <;> omega
theorem set_bit : ∀ y, y < 32 → ∀ v, v < 5 → ∀ b, b < 2 → ∃ z, z < 32 ∧ z.testBit v = decide (b = 1) ∧ ∀ u, u ≠ v → z.testBit u = y.testBit u := by
  intro y hy v hv b hb
  refine ⟨if (y.testBit v) = decide (b = 1) then y else y ^^^ 2 ^ v, ?_, ?_, ?_⟩
  · split
    · exact hy
    · exact Nat.xor_lt_two_pow (n := 5) hy (Nat.pow_lt_pow_right (by decide) hv)
  · split
    · assumption
    · rename_i h
      rw [Nat.testBit_xor, Nat.testBit_two_pow]
      revert h; cases y.testBit v <;> cases decide (b = 1) <;> simp
  · intro u hu
    split
    · rfl
    · rw [Nat.testBit_xor, Nat.testBit_two_pow]
      simp [Ne.symm hu]
theorem Dt.path_hit {a : Nat} {T : Td} (h : Dt a T) : a < 32 → ∀ y, y < 32 → ∃ x, x < 32 ∧ (∀ v, a.testBit v = true → x.testBit v = y.testBit v) ∧ T.path x = T.depth := by
  induction h with
  | leaf a c h => intro _ y hy; exact ⟨y, hy, fun _ _ => rfl, rfl⟩
  | ask a c l r h2 h3 hl hr ihl ihr =>
    intro ha y hy
    have hv : vr c < 5 := by unfold vr; omega
    obtain ⟨w1, w2, _⟩ := wth_fre a ha (vr c) hv h3
    have key : ∀ b, b < 2 → ∀ t : Td, (∀ y, y < 32 → ∃ x, x < 32 ∧ (∀ v, (wth a (vr c)).testBit v = true → x.testBit v = y.testBit v) ∧ t.path x = t.depth) → ∃ x, x < 32 ∧ x.testBit (vr c) = decide (b = 1) ∧ (∀ v, a.testBit v = true → x.testBit v = y.testBit v) ∧ t.path x = t.depth := by
      intro b hb t ih
      obtain ⟨z, hz, z1, z2⟩ := set_bit y hy (vr c) hv b hb
      obtain ⟨x, hx, x1, x2⟩ := ih z hz
      refine ⟨x, hx, ?_, fun v hav => ?_, x2⟩
      · rw [x1 (vr c) (by rw [wth_bit]; simp), z1]
      · rw [x1 v (by rw [wth_bit, hav]; rfl), z2 v (fun e => by subst e; rw [h3] at hav; cases hav)]
    by_cases hd : r.depth ≤ l.depth
    · obtain ⟨x, hx, x0, x1, x2⟩ := key 0 (by decide) l (ihl w2)
      refine ⟨x, hx, x1, ?_⟩
      rw [depth_ask c r hl, path_ask x c r hl, x0, if_neg (by decide), x2]; omega
    · obtain ⟨x, hx, x0, x1, x2⟩ := key 1 (by decide) r (ihr w2)
      refine ⟨x, hx, x1, ?_⟩
      rw [depth_ask c r hl, path_ask x c r hl, x0, if_pos (by decide), x2]; omega
/-- the greatest of the first m numbers, or 0 -/
def maxN (g : Nat → Nat) : Nat → Nat
  | 0 => 0
  | m + 1 => max (maxN g m) (g m)
theorem maxN_le {g : Nat → Nat} {B : Nat} : ∀ {m : Nat}, (∀ i, i < m → g i ≤ B) → maxN g m ≤ B
  | 0, _ => Nat.zero_le _
  | m + 1, h => by have := maxN_le (m := m) (fun i hi => h i (by omega)); have := h m (by omega); rw [maxN]; omega
theorem le_maxN {g : Nat → Nat} {i : Nat} : ∀ {m : Nat}, i < m → g i ≤ maxN g m
  | 0, h => by omega
  | m + 1, h => by
    rw [maxN]
    by_cases e : i = m
    · subst e; omega
    · have := le_maxN (g := g) (m := m) (show i < m by omega); omega
theorem Dt.max_path {T : Td} (h : Dt 0 T) : maxN (fun x => T.path x) 32 = T.depth := by
  obtain ⟨x, hx, _, e⟩ := h.path_hit (by decide) 0 (by decide)
  have h1 := maxN_le (g := fun x => T.path x) (B := T.depth) (m := 32) (fun i _ => h.path_le i)
  have h2 := le_maxN (g := fun x => T.path x) hx
  omega
/-- a text that is one tree -/
def treeOf (S : ByteArray) : Option Td := (tp S 6 0 0).bind fun p => if p.2 = S.size then some p.1 else none
theorem treeOf_some {S : ByteArray} {T : Td} (h : treeOf S = some T) : S.size ≤ 63 ∧ 0 < S.size ∧ tp S 6 0 0 = some (T, S.size) ∧ Dt 0 T := by
  unfold treeOf at h
  obtain ⟨⟨p1, p2⟩, hp, h⟩ := Option.bind_eq_some_iff.mp h
  by_cases e : p2 = S.size
  · rw [if_pos e] at h
    cases Option.some.inj h
    obtain ⟨a1, a2, a3, a4⟩ := tp_some (by decide) hp
    simp only [] at *
    rw [← e]
    have : fre 0 = 5 := by decide
    rw [this] at a4
    exact ⟨by omega, by omega, hp, a1⟩
  · rw [if_neg e] at h; cases h
end Go.Proofs.Ytbcjfmimgamjeaa.M
