/- The letters' step of a search that goes by sizes, told without a test. -/
import Derived.Test.YtmdpjmcleckedaaDoorM15
namespace Go.Proofs.YtmdpjmcleckedaaDoor.M
open Go.RowKit Go.Proofs.YtmdpjmcleckedaaDoorW.PrintWords Go.Proofs.YtmdpjmcleckedaaDoorW.PrintLast
set_option linter.unusedVariables false
set_option linter.unusedSimpArgs false

def szC6 : Bool := allB 4 fun n => allB n fun i => (szLets n i).all (fun x => x != (szVar n i : Int)) && (szLets n i).all (fun x => x != ((szN n - 1 - szVar n i : Nat) : Int)) && szVar n i != szN n - 1 - szVar n i
theorem szC6_ok : szC6 = true := by decide +kernel
theorem szLets_new {n i : Nat} (hn : n ≤ 3) (hi : i < n) : (szVar n i : Int) ∉ szLets n i ∧ ((szN n - 1 - szVar n i : Nat) : Int) ∉ szLets n i ∧ szVar n i ≠ szN n - 1 - szVar n i := by
  have h := allB_of (allB4 szC6_ok hn) i hi
  simp only [Bool.and_eq_true, List.all_eq_true, bne_iff_ne] at h
  exact ⟨fun hm => h.1.1 _ hm rfl, fun hm => h.1.2 _ hm rfl, h.2⟩
theorem szLet_put {n i : Nat} (hn : n ≤ 3) (hi : i < n) {out : List Int} (h : SzI n 1 0 out (szLets n i)) (hu : szU n 0 out + 2 * i + 2 = szN n) (hd : ∀ j, j < i → szIs n 0 out (szVar n j) = false ∧ szIs n 0 out (szN n - 1 - szVar n j) = false) :
    SzI n 1 0 ((out.set (szVar n i) 1).set (szN n - 1 - szVar n i) 1) (szLets n (i + 1)) ∧ szU n 0 ((out.set (szVar n i) 1).set (szN n - 1 - szVar n i) 1) + 2 * (i + 1) + 2 = szN n ∧
      ∀ j, j < i + 1 → szIs n 0 ((out.set (szVar n i) 1).set (szN n - 1 - szVar n i) 1) (szVar n j) = false ∧ szIs n 0 ((out.set (szVar n i) 1).set (szN n - 1 - szVar n i) 1) (szN n - 1 - szVar n j) = false := by
  obtain ⟨v1, v2, v3, _⟩ := szVar_ok hn hi
  obtain ⟨m1, m2, m3⟩ := szLets_new hn hi
  have hp := szN_pos (n := n)
  have hv5 : szN n - 1 - szVar n i < szN n := by omega
  have key : ∀ x, x < szN n → szT n x = 1 → (x : Int) ∉ szLets n i → szIs n 0 out x = true := fun x hx hT hm => by
    rcases h.hig x hx (by omega) with h1 | ⟨_, _, h1⟩
    · rw [szIs, hT, h1]; rfl
    · exact absurd h1 hm
  have p1 := h.put (Int.le_refl 0) (Nat.le_refl 1) v1 (by omega) (key _ v1 v2 m1)
  have hl1 : szVar n i < out.length := by rw [h.len]; exact v1
  have k2 : szIs n 0 (out.set (szVar n i) ((1 : Nat) : Int)) (szN n - 1 - szVar n i) = true := by
    rw [szIs_set hl1 (by decide), if_neg (Ne.symm m3)]
    exact key _ hv5 v3 m2
  have p2 := p1.1.put (Int.le_refl 0) (Nat.le_refl 1) hv5 (by omega) k2
  have hl2 : szN n - 1 - szVar n i < (out.set (szVar n i) ((1 : Nat) : Int)).length := by rw [List.length_set, h.len]; exact hv5
  refine ⟨?_, ?_, ?_⟩
  · have h1 := p2.1
    rw [List.append_assoc] at h1
    exact h1
  · have h1 := p1.2.1
    have h2 := p2.2.1
    have e : (((1 : Nat) : Int)) = 1 := rfl
    rw [e] at h1 h2
    omega
  · intro j hj
    have fin : ∀ x, szIs n 0 out x = false ∨ x = szVar n i ∨ x = szN n - 1 - szVar n i → szIs n 0 ((out.set (szVar n i) ((1 : Nat) : Int)).set (szN n - 1 - szVar n i) ((1 : Nat) : Int)) x = false := by
      intro x hx
      rw [szIs_set hl2 (by decide), szIs_set hl1 (by decide)]
      rcases hx with hx | hx | hx
      · rw [hx]; simp
      · rw [if_pos hx]; simp
      · rw [if_pos hx]
    by_cases e : j = i
    · subst e; exact ⟨fin _ (.inr (.inl rfl)), fin _ (.inr (.inr rfl))⟩
    · exact ⟨fin _ (.inl (hd j (by omega)).1), fin _ (.inl (hd j (by omega)).2)⟩
theorem szZero_ok {n : Nat} (hn : n ≤ 3) : SzI n 1 0 (List.replicate (szN n) 0) (szLets n 0) ∧ szU n 0 (List.replicate (szN n) 0) + 2 * 0 + 2 = szN n := by
  have hr : ∀ x, x < szN n → rd (List.replicate (szN n) 0) (x : Int) = 0 := fun x hx => by simp [rd, List.getD_eq_getElem?_getD, hx]
  have hc : szU n 0 (List.replicate (szN n) 0) = cnt (fun w => decide (szT n w ≠ 0)) (szN n) := cnt_congr (fun i hi => by rw [szIs, hr i hi]; simp)
  have hk := cnt_const n hn
  refine ⟨⟨by simp, fun x hx _ => hr x hx, fun x hx h0 h1 => by omega, fun x hx h1 => .inl (hr x hx), fun x hx => (by cases hx), ?_⟩, by omega⟩
  show 0 + _ ≤ _
  omega
theorem szU_none {n s : Nat} {out fr : List Int} (hn : n ≤ 3) (h : SzI n s 0 out fr) (hs : 10 < s) : szU n 0 out = 0 := by
  have h1 := h.last hn hs (Int.le_refl 0)
  have : ∀ m, m ≤ szN n → cnt (szIs n 0 out) m = 0 := by
    intro m
    induction m with
    | zero => intro _; rfl
    | succ m ih => intro hm; rw [cnt, ih (by omega), h1 m (by omega)]; rfl
  exact this _ (Nat.le_refl _)
/-- how many are left, behind a word taken -/
theorem szTake_left {n s : Nat} (hs : 1 ≤ s) {o : List Int × List Int} (h : SzI n s 0 o.1 o.2) {w : Nat} (hw : w < szN n) (hT : szT n w ≤ s) : szU n 0 (szTake n s 0 o w).1 = if szIs n 0 o.1 w = true then szU n 0 o.1 - 1 else szU n 0 o.1 := by
  unfold szTake
  by_cases e : szIs n 0 o.1 w = true
  · rw [if_pos e, if_pos e]
    have := (h.put (Int.le_refl 0) hs hw hT e).2.1
    show szU n 0 (o.1.set w (s : Int)) = _
    omega
  · rw [if_neg e, if_neg e]
theorem szLets_len (n : Nat) : ∀ i, (szLets n i).length = 2 * i
  | 0 => rfl
  | i + 1 => by rw [szLets, List.length_append, szLets_len n i]; simp; omega
end Go.Proofs.YtmdpjmcleckedaaDoor.M
