/- The smallest formula's text of a word of at most three variables, written as both sides walk: no program in sight. -/
import Derived.Test.YtmdpjmcleckedaaDoorM15
namespace Go.Proofs.YtmdpjmcleckedaaDoor.M
open Go.RowKit Go.Proofs.YtmdpjmcleckedaaDoorW.PrintWords Go.Proofs.YtmdpjmcleckedaaDoorW.PrintLast
set_option linter.unusedVariables false
set_option linter.unusedSimpArgs false

/-- the first of f i, f (i + 1), .. (d of them) that is told -/
def scan {α : Type} (f : Nat → Option α) : Nat → Nat → Option α
  | _, 0 => none
  | i, d + 1 => (f i).or (scan f (i + 1) d)
theorem or_none_r {α : Type} (x : Option α) : x.or none = x := by cases x <;> rfl
theorem or_assoc' {α : Type} (x y z : Option α) : (x.or y).or z = x.or (y.or z) := by cases x <;> rfl
theorem scan_snoc {α : Type} (f : Nat → Option α) : ∀ d i, scan f i (d + 1) = (scan f i d).or (f (i + d))
  | 0, i => by show (f i).or none = (none : Option α).or (f (i + 0)); rw [or_none_r]; rfl
  | d + 1, i => by
    have h := scan_snoc f d (i + 1)
    rw [show i + 1 + d = i + (d + 1) by omega] at h
    show (f i).or (scan f (i + 1) (d + 1)) = ((f i).or (scan f (i + 1) d)).or _
    rw [h, or_assoc']
theorem scan_trim {α : Type} {f : Nat → Option α} {N : Nat} (hN : 2 ≤ N) (h0 : f 0 = none) (h1 : f (N - 1) = none) : scan f 0 N = scan f 1 (N - 2) := by
  obtain ⟨M, rfl⟩ : ∃ M, N = M + 2 := ⟨N - 2, by omega⟩
  rw [scan_snoc, show 0 + (M + 1) = M + 2 - 1 by omega, h1, or_none_r]
  show (f 0).or (scan f 1 M) = _
  rw [h0]; rfl
theorem scan_none {α : Type} {f : Nat → Option α} : ∀ {d i}, (∀ j, i ≤ j → j < i + d → f j = none) → scan f i d = none
  | 0, _, _ => rfl
  | d + 1, i, h => by
    show (f i).or (scan f (i + 1) d) = none
    rw [h i (by omega) (by omega), scan_none (fun j h1 h2 => h j (by omega) (by omega))]; rfl
/-- a loop that goes through i, i + 1, .. and hands on what it meets first -/
theorem scan_loop {α : Type} (F : Nat → Nat → Option α) (f : Nat → Option α) (N : Nat) (z : α) (R : Option α)
    (hs : ∀ i rest, i < N → Ev (fun k => F k (i + 1)) (rest.getD z) → Ev (fun k => F k i) (((f i).or rest).getD z))
    (he : Ev (fun k => F k N) (R.getD z)) : ∀ d i, i + d = N → Ev (fun k => F k i) (((scan f i d).or R).getD z)
  | 0, i, h => by
    obtain rfl : i = N := by omega
    exact he
  | d + 1, i, h => by
    have := hs i ((scan f (i + 1) d).or R) (by omega) (scan_loop F f N z R hs he d (i + 1) (by omega))
    rw [← or_assoc'] at this
    exact this

/-- a letter's text -/
def smLet (n w i : Nat) : Option ByteArray := if w = szVar n i then some ⟨#[UInt8.ofNat (97 + i)]⟩ else if w = szN n - 1 - szVar n i then some ⟨#[33, UInt8.ofNat (97 + i)]⟩ else none
/-- does the pair a, b give w by the operator? -/
def smFit (n w o a b : Nat) : Prop := szT n a ≠ 0 ∧ szT n a < szT n w ∧ szT n b ≠ 0 ∧ szT n a + szT n b = szT n w ∧ (if o = 0 then a &&& b else a ||| b) = w
instance (n w o a b : Nat) : Decidable (smFit n w o a b) := by unfold smFit; infer_instance
def smOp (o : Nat) : ByteArray := if o = 0 then ⟨#[38]⟩ else ⟨#[124]⟩
/-- the text, by so many steps -/
def smT (n : Nat) : Nat → Nat → ByteArray
  | 0, _ => ⟨#[]⟩
  | k + 1, w => if w = 0 then ⟨#[48]⟩ else if w + 1 = szN n then ⟨#[49]⟩ else
      (((if szT n w = 1 then scan (smLet n w) 0 n else none)).or (scan (fun o => scan (fun a => scan (fun b => if smFit n w o a b then some (smOp o ++ smT n k a ++ smT n k b) else none) 0 (szN n)) 0 (szN n)) 0 2)).getD ⟨#[]⟩
def smR (n w k : Nat) (o a b : Nat) : Option ByteArray := if smFit n w o a b then some (smOp o ++ smT n k a ++ smT n k b) else none
def smA (n w k : Nat) (o a : Nat) : Option ByteArray := scan (smR n w k o a) 0 (szN n)
def smO (n w k : Nat) (o : Nat) : Option ByteArray := scan (smA n w k o) 0 (szN n)
def smL (n w : Nat) : Option ByteArray := if szT n w = 1 then scan (smLet n w) 0 n else none
theorem smT_succ (n k w : Nat) : smT n (k + 1) w = if w = 0 then ⟨#[48]⟩ else if w + 1 = szN n then ⟨#[49]⟩ else ((smL n w).or (scan (smO n w k) 0 2)).getD ⟨#[]⟩ := rfl
theorem smR_none {n w k o a b : Nat} (h : szT n a = 0 ∨ szT n w ≤ szT n a ∨ szT n b = 0 ∨ szT n a + szT n b ≠ szT n w) : smR n w k o a b = none := by
  unfold smR
  rw [if_neg]
  rintro ⟨h1, h2, h3, h4, _⟩
  omega
theorem smA_none {n w k o a : Nat} (h : szT n a = 0 ∨ szT n w ≤ szT n a) : smA n w k o a = none := scan_none (fun b _ _ => smR_none (by omega))
theorem szT_ends {n : Nat} (hn : n ≤ 3) : szT n 0 = 0 ∧ szT n (szN n - 1) = 0 := by
  have hN := @szN_pos n
  exact ⟨(szT_zero hn (by omega)).mpr (.inl rfl), (szT_zero hn (by omega)).mpr (.inr (by omega))⟩
theorem smA_trim {n w k o a : Nat} (hn : n ≤ 3) : smA n w k o a = scan (smR n w k o a) 1 (szN n - 2) :=
  scan_trim szN_pos (smR_none (by have := szT_ends hn; omega)) (smR_none (by have := szT_ends hn; omega))
theorem smO_trim {n w k o : Nat} (hn : n ≤ 3) : smO n w k o = scan (smA n w k o) 1 (szN n - 2) :=
  scan_trim szN_pos (smA_none (by have := szT_ends hn; omega)) (smA_none (by have := szT_ends hn; omega))

theorem scan_all {α : Type} {P : α → Prop} {f : Nat → Option α} (h : ∀ i x, f i = some x → P x) : ∀ {d i x}, scan f i d = some x → P x
  | 0, _, _, e => by cases e
  | d + 1, i, x, e => by
    have e' : (f i).or (scan f (i + 1) d) = some x := e
    cases hf : f i with
    | some y => rw [hf] at e'; cases e'; exact h i _ hf
    | none => rw [hf] at e'; exact scan_all h e'
theorem or_all {α : Type} {P : α → Prop} {x y : Option α} (hx : ∀ a, x = some a → P a) (hy : ∀ a, y = some a → P a) : ∀ a, x.or y = some a → P a := by
  cases x with
  | some b => intro a h; exact hx a h
  | none => exact hy
theorem getD_all {α : Type} {P : α → Prop} {x : Option α} {z : α} (hx : ∀ a, x = some a → P a) (hz : P z) : P (x.getD z) := by
  cases x with
  | some b => exact hx b rfl
  | none => exact hz
theorem smT_size (n : Nat) : ∀ k w, (smT n k w).size + 1 ≤ 3 * 2 ^ k
  | 0, _ => by show 0 + 1 ≤ 3; omega
  | k + 1, w => by
    have h2 := Nat.two_pow_pos k
    have h3 : 2 ^ (k + 1) = 2 * 2 ^ k := Nat.pow_succ'
    rw [smT_succ]
    by_cases h0 : w = 0
    · rw [if_pos h0]; show 1 + 1 ≤ _; omega
    · rw [if_neg h0]
      by_cases h1 : w + 1 = szN n
      · rw [if_pos h1]; show 1 + 1 ≤ _; omega
      · rw [if_neg h1]
        refine getD_all (P := fun (x : ByteArray) => x.size + 1 ≤ 3 * 2 ^ (k + 1)) (or_all ?_ ?_) (by show 0 + 1 ≤ _; omega)
        · intro a h
          unfold smL at h
          by_cases e : szT n w = 1
          · rw [if_pos e] at h
            refine scan_all (P := fun (x : ByteArray) => x.size + 1 ≤ 3 * 2 ^ (k + 1)) (fun i x hx => ?_) h
            unfold smLet at hx
            by_cases e1 : w = szVar n i
            · rw [if_pos e1] at hx; cases hx; show 1 + 1 ≤ _; omega
            · rw [if_neg e1] at hx
              by_cases e2 : w = szN n - 1 - szVar n i
              · rw [if_pos e2] at hx; cases hx; show 2 + 1 ≤ _; omega
              · rw [if_neg e2] at hx; cases hx
          · rw [if_neg e] at h; cases h
        · intro r h
          refine scan_all (P := fun (x : ByteArray) => x.size + 1 ≤ 3 * 2 ^ (k + 1)) (fun o x hx => ?_) h
          refine scan_all (P := fun (x : ByteArray) => x.size + 1 ≤ 3 * 2 ^ (k + 1)) (fun a x hx => ?_) hx
          refine scan_all (P := fun (x : ByteArray) => x.size + 1 ≤ 3 * 2 ^ (k + 1)) (fun b x hx => ?_) hx
          unfold smR at hx
          by_cases e : smFit n w o a b
          · rw [if_pos e] at hx; cases hx
            have h4 := smT_size n k a
            have h5 := smT_size n k b
            have h6 : (smOp o).size = 1 := by unfold smOp; split <;> rfl
            simp only [ByteArray.size_append]
            omega
          · rw [if_neg e] at hx; cases hx
/-- the texts of words of sizes up to 10 are short -/
theorem smT_short (n : Nat) {k : Nat} (w : Nat) (hk : k ≤ 12) : (smT n k w).size ≤ 12288 := by
  have h := smT_size n k w
  have h2 := Nat.pow_le_pow_right (show 0 < 2 by decide) hk
  have : (2 : Nat) ^ 12 = 4096 := by decide
  omega
end Go.Proofs.YtmdpjmcleckedaaDoor.M
