/- Formulas as texts and as trees: no program in sight. -/
import Derived.Test.YtbcjfmimgamjeaaM5
namespace Go.Proofs.Ytbcjfmimgamjeaa.M
open Go.RowKit Go.Proofs.YtbcjfmimgamjeaaW.PrintWords Go.Proofs.YtbcjfmimgamjeaaW.PrintLast Go.Proofs.YtbcjfmimgamjeaaW.PrintMore
set_option linter.unusedVariables false
set_option linter.unusedSimpArgs false

/-- a tree of signs -/
inductive Sh where
  | nil
  | node (c : Int) (l r : Sh)
def Sh.nodes : Sh → Nat
  | .nil => 0
  | .node _ l r => l.nodes + r.nodes + 1
def isLet (c : Int) : Prop := (97 ≤ c ∧ c < 102) ∨ c = 48 ∨ c = 49
instance (c : Int) : Decidable (isLet c) := by unfold isLet; infer_instance
/-- the formula that begins at place i of a text, and the place behind it -/
def rp (S : ByteArray) : Nat → Nat → Option (Sh × Nat)
  | 0, _ => none
  | k + 1, i => if S.size ≤ i then none else
    if isLet (bt S i) then some (.node (bt S i) .nil .nil, i + 1)
    else if bt S i = 33 then (rp S k (i + 1)).bind fun p => some (.node (bt S i) p.1 .nil, p.2)
    else if bt S i = 38 ∨ bt S i = 124 ∨ bt S i = 94 then (rp S k (i + 1)).bind fun p => (rp S k p.2).bind fun q => some (.node (bt S i) p.1 q.1, q.2)
    else none
/-- how the parts of a formula lie: none, one or two -/
inductive Fine : Sh → Prop
  | leaf (c : Int) : Fine (.node c .nil .nil)
  | one (c : Int) (l : Sh) : Fine l → Fine (.node c l .nil)
  | two (c : Int) (l r : Sh) : Fine l → Fine r → Fine (.node c l r)
theorem Fine.ne {T : Sh} (h : Fine T) : T ≠ .nil := by cases h <;> simp
theorem rp_some {S : ByteArray} : ∀ {k i : Nat} {T : Sh} {j : Nat}, rp S k i = some (T, j) → Fine T ∧ i < j ∧ j ≤ S.size ∧ T.nodes + i ≤ j
  | 0, i, T, j, h => by simp [rp] at h
  | k + 1, i, T, j, h => by
    rw [rp] at h
    by_cases h0 : S.size ≤ i
    · rw [if_pos h0] at h; cases h
    · rw [if_neg h0] at h
      by_cases h1 : isLet (bt S i)
      · rw [if_pos h1] at h
        simp only [Option.some.injEq, Prod.mk.injEq] at h
        obtain ⟨rfl, rfl⟩ := h
        exact ⟨.leaf _, by omega, by omega, by simp [Sh.nodes]; omega⟩
      · rw [if_neg h1] at h
        by_cases h2 : bt S i = 33
        · rw [if_pos h2] at h
          obtain ⟨⟨p1, p2⟩, hp, h⟩ := Option.bind_eq_some_iff.mp h
          simp only [Option.some.injEq, Prod.mk.injEq] at h
          obtain ⟨rfl, rfl⟩ := h
          obtain ⟨a1, a2, a3, a4⟩ := rp_some hp
          exact ⟨.one _ _ a1, by omega, a3, by simp [Sh.nodes]; omega⟩
        · rw [if_neg h2] at h
          by_cases h3 : bt S i = 38 ∨ bt S i = 124 ∨ bt S i = 94
          · rw [if_pos h3] at h
            obtain ⟨⟨p1, p2⟩, hp, h⟩ := Option.bind_eq_some_iff.mp h
            obtain ⟨⟨q1, q2⟩, hq, h⟩ := Option.bind_eq_some_iff.mp h
            simp only [Option.some.injEq, Prod.mk.injEq] at h
            obtain ⟨rfl, rfl⟩ := h
            obtain ⟨a1, a2, a3, a4⟩ := rp_some hp
            obtain ⟨b1, b2, b3, b4⟩ := rp_some hq
            exact ⟨.two _ _ _ a1 b1, by omega, b3, by simp [Sh.nodes]; omega⟩
          · rw [if_neg h3] at h; cases h
def Sh.leaves : Sh → Nat
  | .nil => 0
  | .node _ .nil _ => 1
  | .node _ l .nil => l.leaves
  | .node _ l r => l.leaves + r.leaves
def Sh.depth : Sh → Nat
  | .nil => 0
  | .node _ .nil _ => 0
  | .node _ l .nil => l.depth
  | .node _ l r => 1 + max l.depth r.depth
theorem leaves_one (c : Int) {l : Sh} (h : Fine l) : (Sh.node c l .nil).leaves = l.leaves := by cases h <;> rfl
theorem leaves_two (c : Int) {l r : Sh} (h : Fine l) (h2 : Fine r) : (Sh.node c l r).leaves = l.leaves + r.leaves := by cases h <;> cases h2 <;> rfl
theorem depth_one (c : Int) {l : Sh} (h : Fine l) : (Sh.node c l .nil).depth = l.depth := by cases h <;> rfl
theorem depth_two (c : Int) {l r : Sh} (h : Fine l) (h2 : Fine r) : (Sh.node c l r).depth = 1 + max l.depth r.depth := by cases h <;> cases h2 <;> rfl
theorem leaves_le {T : Sh} (h : Fine T) : T.leaves ≤ T.nodes := by
  induction h with
  | leaf c => simp [Sh.leaves, Sh.nodes]
  | one c l h ih => rw [leaves_one c h, Sh.nodes]; omega
  | two c l r h h2 ih ih2 => rw [leaves_two c h h2, Sh.nodes]; omega
theorem depth_le {T : Sh} (h : Fine T) : T.depth ≤ T.nodes := by
  induction h with
  | leaf c => simp [Sh.depth, Sh.nodes]
  | one c l h ih => rw [depth_one c h, Sh.nodes]; omega
  | two c l r h h2 ih ih2 => rw [depth_two c h h2, Sh.nodes]; omega
/-- a text of at most 60 bytes that is one formula -/
def formOf (S : ByteArray) : Option Sh := if S.size ≤ 60 then (rp S S.size 0).bind fun p => if p.2 = S.size then some p.1 else none else none
theorem toList_len (s : ByteArray) : s.toList.length = s.size := by rw [ByteArray.toList_eq]; simp
theorem bt_extract {S : ByteArray} {i : Nat} (h : i < S.size) : bt (S.extract i S.size) 0 = bt S i := by
  have h1 : (0 : Int).toNat < (S.extract i S.size).size := by simp [ByteArray.size_extract]; omega
  unfold bt
  rw [dif_pos h1, dif_pos (show ((i : Nat) : Int).toNat < S.size by simpa using h)]
  simp [ByteArray.getElem_extract]
theorem extract_extract {S : ByteArray} {i : Nat} (d : Nat) (h : i + d ≤ S.size) : (S.extract i S.size).extract d (S.size - i) = S.extract (i + d) S.size := by
  rw [ByteArray.extract_extract]; congr 1; omega

/-- is the byte at i a letter or a constant, if it stands in a formula -/
def nOp (S : ByteArray) (i : Nat) : Bool := !decide (bt S i = 33 ∨ bt S i = 38 ∨ bt S i = 124 ∨ bt S i = 94)
theorem rp_cnt {S : ByteArray} : ∀ {k i : Nat} {T : Sh} {j : Nat}, rp S k i = some (T, j) → cnt (nOp S) j = cnt (nOp S) i + T.leaves
  | 0, i, T, j, h => by simp [rp] at h
  | k + 1, i, T, j, h => by
    rw [rp] at h
    by_cases h0 : S.size ≤ i
    · rw [if_pos h0] at h; cases h
    · rw [if_neg h0] at h
      by_cases h1 : isLet (bt S i)
      · rw [if_pos h1] at h
        simp only [Option.some.injEq, Prod.mk.injEq] at h
        obtain ⟨rfl, rfl⟩ := h
        have e : nOp S i = true := by
          unfold nOp isLet at *
          rw [decide_eq_false (by omega)]; rfl
        rw [cnt, e]; rfl
      · rw [if_neg h1] at h
        by_cases h2 : bt S i = 33
        · rw [if_pos h2] at h
          obtain ⟨⟨p1, p2⟩, hp, h⟩ := Option.bind_eq_some_iff.mp h
          simp only [Option.some.injEq, Prod.mk.injEq] at h
          obtain ⟨rfl, rfl⟩ := h
          have ih := rp_cnt hp
          have e : nOp S i = false := by unfold nOp; rw [decide_eq_true (.inl h2)]; rfl
          rw [leaves_one _ (rp_some hp).1, ih, cnt, e]; simp
        · rw [if_neg h2] at h
          by_cases h3 : bt S i = 38 ∨ bt S i = 124 ∨ bt S i = 94
          · rw [if_pos h3] at h
            obtain ⟨⟨p1, p2⟩, hp, h⟩ := Option.bind_eq_some_iff.mp h
            obtain ⟨⟨q1, q2⟩, hq, h⟩ := Option.bind_eq_some_iff.mp h
            simp only [Option.some.injEq, Prod.mk.injEq] at h
            obtain ⟨rfl, rfl⟩ := h
            have ih := rp_cnt hp
            have ih2 := rp_cnt hq
            have e : nOp S i = false := by unfold nOp; rw [decide_eq_true (.inr h3)]; rfl
            simp only [] at ih ih2
            rw [leaves_two _ (rp_some hp).1 (rp_some hq).1, ih2, ih, cnt, e]; simp; omega
          · rw [if_neg h3] at h; cases h
theorem formOf_some {S : ByteArray} {T : Sh} (h : formOf S = some T) : S.size ≤ 60 ∧ 0 < S.size ∧ rp S S.size 0 = some (T, S.size) := by
  unfold formOf at h
  by_cases h60 : S.size ≤ 60
  · rw [if_pos h60] at h
    obtain ⟨⟨p1, p2⟩, hp, h⟩ := Option.bind_eq_some_iff.mp h
    simp only [] at h
    split at h
    · rename_i h2
      injection h with h; subst h
      obtain ⟨a1, a2, a3, a4⟩ := rp_some hp
      exact ⟨h60, by omega, by rw [hp, h2]⟩
    · cases h
  · rw [if_neg h60] at h; cases h

end Go.Proofs.Ytbcjfmimgamjeaa.M
