/- A computation that has some result, of which something is known: no program in sight. -/
import Derived.Test.YtfnbcbjgjoobpaaM5
namespace Go.Proofs.Ytfnbcbjgjoobpaa.M
open Go.RowKit Go.Proofs.YtfnbcbjgjoobpaaW.PrintWords Go.Proofs.YtfnbcbjgjoobpaaW.PrintLast
set_option linter.unusedVariables false
set_option linter.unusedSimpArgs false

/-- from some round on there is one result, and P holds of it -/
def Tot {α : Type} (g : Nat → Option α) (P : α → Prop) : Prop := ∃ r, P r ∧ Ev g r
theorem Tot.ev {α : Type} {g : Nat → Option α} {P : α → Prop} {r : α} (h : Ev g r) (hp : P r) : Tot g P := ⟨r, hp, h⟩
theorem Tot.now {α : Type} {P : α → Prop} (r : α) (hp : P r) : Tot (fun _ => some r) P := ⟨r, hp, Ev.now r⟩
theorem Tot.bind {α β : Type} {g : Nat → Option α} {f : Nat → α → Option β} {P : α → Prop} {Q : β → Prop} (h : Tot g P) (hf : ∀ r, P r → Tot (fun k => f k r) Q) : Tot (fun k => (g k).bind (f k)) Q := by
  obtain ⟨r, hp, he⟩ := h
  obtain ⟨s, hq, hs⟩ := hf r hp
  exact ⟨s, hq, Ev.bind he hs⟩
theorem Tot.congr {α : Type} {g f : Nat → Option α} {P : α → Prop} (h : ∀ k, g k = f k) (hf : Tot f P) : Tot g P := by
  obtain ⟨r, hp, he⟩ := hf
  exact ⟨r, hp, Ev.congr h he⟩
theorem Tot.step {α : Type} {g f : Nat → Option α} {P : α → Prop} (h : ∀ k, g (k + 1) = f k) (hf : Tot f P) : Tot g P := by
  obtain ⟨r, hp, he⟩ := hf
  exact ⟨r, hp, Ev.step h he⟩
theorem Tot.end {α : Type} {g : Nat → Option α} {P : α → Prop} (r : α) (hp : P r) (h : ∀ k, g (k + 1) = some r) : Tot g P := ⟨r, hp, Ev.end h⟩
theorem Tot.mono {α : Type} {g : Nat → Option α} {P Q : α → Prop} (h : Tot g P) (hq : ∀ r, P r → Q r) : Tot g Q := by
  obtain ⟨r, hp, he⟩ := h
  exact ⟨r, hq r hp, he⟩
theorem Tot.ite {α : Type} {g f : Nat → Option α} {P : α → Prop} (c : Prop) [Decidable c] (h : c → Tot g P) (hf : ¬ c → Tot f P) : Tot (fun k => if c then g k else f k) P := by
  by_cases e : c
  · exact Tot.congr (fun k => if_pos e) (h e)
  · exact Tot.congr (fun k => if_neg e) (hf e)
/-- a loop that counts up -/
theorem Tot.up {S α : Type} {P : α → Prop} (F : Nat → S → Nat → Option α) (N : Nat) (I : Nat → S → Prop)
    (hs : ∀ i s, i < N → I i s → (∀ s', I (i + 1) s' → Tot (F (i + 1) s') P) → Tot (F i s) P) (he : ∀ s, I N s → Tot (F N s) P) :
    ∀ d i s, i + d = N → I i s → Tot (F i s) P := by
  intro d
  induction d with
  | zero =>
    intro i s hi h
    obtain rfl : i = N := by omega
    exact he s h
  | succ d ih =>
    intro i s hi h
    exact hs i s (by omega) h (fun s' hs' => ih (i + 1) s' (by omega) hs')
theorem and_mask (a : Int) {m : Nat} (hm : m < 2 ^ 63) : 0 ≤ Go.bits .and .i64 a (m : Int) ∧ Go.bits .and .i64 a (m : Int) ≤ (m : Int) := by
  have e : Go.bits .and .i64 a (m : Int) = (((BitVec.ofInt 64 a).toNat &&& m : Nat) : Int) := by
    simp only [Go.bits, BitVec.ofInt_natCast, BitVec.toNat_and, BitVec.toNat_ofNat, mod_bits hm]
    exact wi64 _ (Int.natCast_nonneg _) (cast_lt (Nat.lt_of_le_of_lt Nat.and_le_right hm))
  rw [e]
  exact ⟨Int.natCast_nonneg _, Int.ofNat_le.mpr Nat.and_le_right⟩
theorem and_255 (a : Int) : 0 ≤ Go.bits .and .i64 a 255 ∧ Go.bits .and .i64 a 255 ≤ 255 := and_mask a (m := 255) (by decide)
end Go.Proofs.Ytfnbcbjgjoobpaa.M
