/- Protocols as texts and as trees: no program in sight. -/
import Derived.Test.YtlcgappojmdgfaaM6
import Derived.Lib.Bytealg
namespace Go.Proofs.Ytlcgappojmdgfaa.M
open Go.RowKit Go.Proofs.YtlcgappojmdgfaaW.PrintWords Go.Proofs.YtlcgappojmdgfaaW.PrintLast Go.Proofs.YtlcgappojmdgfaaW.PrintMore
set_option linter.unusedVariables false
set_option linter.unusedSimpArgs false

/-- the number of a hexadecimal digit, or -1 -/
def hexV (c : Int) : Int := if 48 ≤ c ∧ c ≤ 57 then c - 48 else if 97 ≤ c ∧ c ≤ 102 then c - 87 else -1
theorem hex_index : ∀ c, c < 256 → Go.Lib.indexByte [48, 49, 50, 51, 52, 53, 54, 55, 56, 57, 97, 98, 99, 100, 101, 102] (c : Nat).toUInt8 = hexV (c : Int) :=
  allB_dec (P := fun c => Go.Lib.indexByte [48, 49, 50, 51, 52, 53, 54, 55, 56, 57, 97, 98, 99, 100, 101, 102] (c : Nat).toUInt8 = hexV (c : Int)) (by decide +kernel)
theorem hexV_range (c : Int) : -1 ≤ hexV c ∧ hexV c ≤ 15 := by unfold hexV; split <;> (try split) <;> omega
/-- a tree of turns: who, which digit, and what follows 0 and 1 -/
inductive Tn where
  | nil
  | node (c d : Int) (l r : Tn)
def Tn.nodes : Tn → Nat
  | .nil => 0
  | .node _ _ l r => l.nodes + r.nodes + 1
/-- the protocol that begins at place i of a text, and the place behind it -/
def rt (S : ByteArray) : Nat → Nat → Option (Tn × Nat)
  | 0, _ => none
  | k + 1, i => if S.size ≤ i then none else
    if bt S i = 48 ∨ bt S i = 49 then some (.node (bt S i) 0 .nil .nil, i + 1)
    else if (bt S i ≠ 65 ∧ bt S i ≠ 66) ∨ S.size < i + 2 then none
    else if hexV (bt S (i + 1 : Nat)) < 0 then none
    else (rt S k (i + 2)).bind fun p => (rt S k p.2).bind fun q => some (.node (bt S i) (hexV (bt S (i + 1 : Nat))) p.1 q.1, q.2)
inductive FineT : Tn → Prop
  | leaf (c : Int) : c = 48 ∨ c = 49 → FineT (.node c 0 .nil .nil)
  | two (c d : Int) (l r : Tn) : c = 65 ∨ c = 66 → 0 ≤ d → d ≤ 15 → FineT l → FineT r → FineT (.node c d l r)
theorem rt_some {S : ByteArray} : ∀ {k i : Nat} {T : Tn} {j : Nat}, rt S k i = some (T, j) → FineT T ∧ i < j ∧ j ≤ S.size ∧ T.nodes + i ≤ j
  | 0, i, T, j, h => by simp [rt] at h
  | k + 1, i, T, j, h => by
    rw [rt] at h
    by_cases h0 : S.size ≤ i
    · rw [if_pos h0] at h; cases h
    · rw [if_neg h0] at h
      by_cases h1 : bt S i = 48 ∨ bt S i = 49
      · rw [if_pos h1] at h
        simp only [Option.some.injEq, Prod.mk.injEq] at h
        obtain ⟨rfl, rfl⟩ := h
        exact ⟨.leaf _ h1, by omega, by omega, by simp [Tn.nodes]; omega⟩
      · rw [if_neg h1] at h
        by_cases h2 : (bt S i ≠ 65 ∧ bt S i ≠ 66) ∨ S.size < i + 2
        · rw [if_pos h2] at h; cases h
        · rw [if_neg h2] at h
          by_cases h3 : hexV (bt S (i + 1 : Nat)) < 0
          · rw [if_pos h3] at h; cases h
          · rw [if_neg h3] at h
            obtain ⟨⟨p1, p2⟩, hp, h⟩ := Option.bind_eq_some_iff.mp h
            obtain ⟨⟨q1, q2⟩, hq, h⟩ := Option.bind_eq_some_iff.mp h
            simp only [Option.some.injEq, Prod.mk.injEq] at h
            obtain ⟨rfl, rfl⟩ := h
            obtain ⟨a1, a2, a3, a4⟩ := rt_some hp
            obtain ⟨b1, b2, b3, b4⟩ := rt_some hq
            exact ⟨.two _ _ _ _ (by omega) (by omega) (hexV_range _).2 a1 b1, by omega, b3, by simp [Tn.nodes]; omega⟩
def Tn.leaves : Tn → Nat
  | .nil => 0
  | .node _ _ .nil _ => 1
  | .node _ _ l r => l.leaves + r.leaves
def Tn.depth : Tn → Nat
  | .nil => 0
  | .node _ _ .nil _ => 0
  | .node _ _ l r => 1 + max l.depth r.depth
theorem tleaves_two (c d : Int) {l r : Tn} (h : FineT l) : (Tn.node c d l r).leaves = l.leaves + r.leaves := by cases h <;> rfl
theorem tdepth_two (c d : Int) {l r : Tn} (h : FineT l) : (Tn.node c d l r).depth = 1 + max l.depth r.depth := by cases h <;> rfl
theorem tleaves_le {T : Tn} (h : FineT T) : T.leaves ≤ T.nodes := by
  induction h with
  | leaf c _ => simp [Tn.leaves, Tn.nodes]
  | two c d l r _ _ _ h h2 ih ih2 => rw [tleaves_two c d h, Tn.nodes]; omega
theorem tdepth_le {T : Tn} (h : FineT T) : T.depth ≤ T.nodes := by
  induction h with
  | leaf c _ => simp [Tn.depth, Tn.nodes]
  | two c d l r _ _ _ h h2 ih ih2 => rw [tdepth_two c d h, Tn.nodes]; omega
/-- a text of at most 100 bytes that is one protocol -/
def protOf (S : ByteArray) : Option Tn := if S.size ≤ 100 then (rt S S.size 0).bind fun p => if p.2 = S.size then some p.1 else none else none
theorem protOf_some {S : ByteArray} {T : Tn} (h : protOf S = some T) : S.size ≤ 100 ∧ 0 < S.size ∧ rt S S.size 0 = some (T, S.size) := by
  unfold protOf at h
  by_cases h60 : S.size ≤ 100
  · rw [if_pos h60] at h
    obtain ⟨⟨p1, p2⟩, hp, h⟩ := Option.bind_eq_some_iff.mp h
    simp only [] at h
    split at h
    · rename_i h2
      injection h with h; subst h
      obtain ⟨a1, a2, a3, a4⟩ := rt_some hp
      exact ⟨h60, by omega, by rw [hp, h2]⟩
    · cases h
  · rw [if_neg h60] at h; cases h
/-- the value of a protocol, and how many bits are sent -/
def Tn.run (a b : Nat) : Tn → Int × Nat
  | .nil => (0, 0)
  | .node c _ .nil _ => (c - 48, 0)
  | .node c d l r => if d.toNat.testBit (if c = 66 then b else a) = true then ((r.run a b).1, (r.run a b).2 + 1) else ((l.run a b).1, (l.run a b).2 + 1)
theorem run_two (a b : Nat) (c d : Int) {l r : Tn} (h : FineT l) : (Tn.node c d l r).run a b = if d.toNat.testBit (if c = 66 then b else a) = true then ((r.run a b).1, (r.run a b).2 + 1) else ((l.run a b).1, (l.run a b).2 + 1) := by cases h <;> rfl
theorem run_le (a b : Nat) {T : Tn} (h : FineT T) : (T.run a b).2 ≤ T.nodes := by
  induction h with
  | leaf c _ => simp [Tn.run, Tn.nodes]
  | two c d l r _ _ _ h h2 ih ih2 =>
    rw [run_two a b c d h, Tn.nodes]
    by_cases hq : d.toNat.testBit (if c = 66 then b else a) = true
    · rw [if_pos hq]; show (r.run a b).2 + 1 ≤ _; omega
    · rw [if_neg hq]; show (l.run a b).2 + 1 ≤ _; omega
theorem bt_extract1 {S : ByteArray} {i j m : Nat} (hm : m = i + j) (h : m < S.size) : bt (S.extract i S.size) (j : Int) = bt S (m : Int) := by
  have h1 : ((j : Nat) : Int).toNat < (S.extract i S.size).size := by simp [ByteArray.size_extract]; omega
  have h2 : ((m : Nat) : Int).toNat < S.size := by rw [Int.toNat_natCast]; exact h
  unfold bt
  rw [dif_pos h1, dif_pos h2]
  subst hm
  simp only [Int.toNat_natCast, ByteArray.getElem_extract]

end Go.Proofs.Ytlcgappojmdgfaa.M
