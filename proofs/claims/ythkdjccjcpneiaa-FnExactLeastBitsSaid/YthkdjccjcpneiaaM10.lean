/- Loops that look for a bad place: no program in sight. -/
import Derived.Test.YthkdjccjcpneiaaM5
namespace Go.Proofs.Ythkdjccjcpneiaa.M
open Go.RowKit Go.Proofs.YthkdjccjcpneiaaW.PrintWords Go.Proofs.YthkdjccjcpneiaaW.PrintLast
set_option linter.unusedVariables false
set_option linter.unusedSimpArgs false

theorem allB_ex {p : Nat → Bool} : ∀ {n : Nat}, allB n p = false → ∃ j, j < n ∧ p j = false
  | 0, h => by cases h
  | n + 1, h => by
    rw [allB] at h
    cases e : p n with
    | false => exact ⟨n, by omega, e⟩
    | true =>
      rw [e, Bool.true_and] at h
      obtain ⟨j, h1, h2⟩ := allB_ex h
      exact ⟨j, by omega, h2⟩
theorem allB_congr {p q : Nat → Bool} : ∀ {n : Nat}, (∀ i, i < n → p i = q i) → allB n p = allB n q
  | 0, _ => rfl
  | n + 1, h => by rw [allB, allB, h n (by omega), allB_congr (fun i hi => h i (by omega))]
/-- a loop that goes on where ok holds and answers bad where not -/
theorem Ev.all {α : Type} (F : Nat → Nat → Option α) (N : Nat) (ok : Nat → Bool) (good bad : α)
    (hs : ∀ i, i < N → ok i = true → ∀ r, Ev (fun k => F k (i + 1)) r → Ev (fun k => F k i) r) (hb : ∀ i, i < N → ok i = false → Ev (fun k => F k i) bad) (he : Ev (fun k => F k N) good) :
    Ev (fun k => F k 0) (if allB N ok = true then good else bad) := by
  cases h : allB N ok with
  | true =>
    exact Ev.count F N good (fun i hi hn => hs i hi (allB_of h i hi) good hn) he N 0 (by omega)
  | false =>
    obtain ⟨j, h1, h2⟩ := allB_ex h
    exact Ev.bad F N bad ok (fun i hi ho hn => hs i hi ho bad hn) hb N 0 (by omega) ⟨j, by omega, h1, h2⟩
/-- the same, where the good end goes on to something else -/
theorem Ev.all_on {α : Type} (F : Nat → Nat → Option α) (N : Nat) (ok : Nat → Bool) (r bad : α)
    (hs : ∀ i, i < N → ok i = true → ∀ r, Ev (fun k => F k (i + 1)) r → Ev (fun k => F k i) r) (h : allB N ok = true) (he : Ev (fun k => F k N) r) :
    Ev (fun k => F k 0) r := Ev.count F N r (fun i hi hn => hs i hi (allB_of h i hi) r hn) he N 0 (by omega)
theorem Ev.all_bad {α : Type} (F : Nat → Nat → Option α) (N : Nat) (ok : Nat → Bool) (bad : α)
    (hs : ∀ i, i < N → ok i = true → ∀ r, Ev (fun k => F k (i + 1)) r → Ev (fun k => F k i) r) (hb : ∀ i, i < N → ok i = false → Ev (fun k => F k i) bad) (h : allB N ok = false) :
    Ev (fun k => F k 0) bad := by
  obtain ⟨j, h1, h2⟩ := allB_ex h
  exact Ev.bad F N bad ok (fun i hi ho hn => hs i hi ho bad hn) hb N 0 (by omega) ⟨j, by omega, h1, h2⟩
/-- do two words tell the same parts of a third one -/
theorem xor_and_zero {a b m : Nat} : ((a ^^^ b) &&& m = 0) ↔ (a &&& m = b &&& m) := by
  rw [Nat.and_xor_distrib_right]
  constructor
  · intro h
    have : a &&& m ^^^ (a &&& m ^^^ b &&& m) = a &&& m ^^^ 0 := by rw [h]
    rw [← Nat.xor_assoc, Nat.xor_self, Nat.zero_xor, Nat.xor_zero] at this
    exact this.symm
  · intro h; rw [h, Nat.xor_self]
theorem xor_and_int {a b m : Nat} (ha : a < 2 ^ 63) (hb : b < 2 ^ 63) (hm : m < 2 ^ 63) : (Go.bits .and .i64 (Go.bits .xor .i64 (a : Int) (b : Int)) (m : Int) = 0) ↔ (Go.bits .and .i64 (a : Int) (m : Int) = Go.bits .and .i64 (b : Int) (m : Int)) := by
  rw [xor_nat ha hb, and_nat (Nat.xor_lt_two_pow ha hb) hm, and_nat ha hm, and_nat hb hm]
  have := xor_and_zero (a := a) (b := b) (m := m)
  constructor
  · intro h; exact congrArg Int.ofNat (this.mp (by exact_mod_cast h))
  · intro h
    have h' : a &&& m = b &&& m := by exact_mod_cast h
    rw [this.mpr h']; rfl
end Go.Proofs.Ythkdjccjcpneiaa.M
