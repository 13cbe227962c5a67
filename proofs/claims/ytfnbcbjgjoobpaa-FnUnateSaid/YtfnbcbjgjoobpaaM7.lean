/- Counting what may not be told: no program in sight. -/
import Derived.Test.YtfnbcbjgjoobpaaM5
namespace Go.Proofs.Ytfnbcbjgjoobpaa.M
open Go.RowKit Go.Proofs.YtfnbcbjgjoobpaaW.PrintWords Go.Proofs.YtfnbcbjgjoobpaaW.PrintLast Go.Proofs.YtfnbcbjgjoobpaaW.PrintMore
set_option linter.unusedVariables false
set_option linter.unusedSimpArgs false

/-- how many of the first m numbers have it, where all tell -/
def cntO (g : Nat → Option Bool) : Nat → Option Nat
  | 0 => some 0
  | m + 1 => (cntO g m).bind fun c => (g m).bind fun b => some (c + b.toNat)
theorem cntO_some {g : Nat → Option Bool} : ∀ {m c : Nat}, cntO g m = some c → (∀ i, i < m → g i = some ((g i).getD false)) ∧ c = cnt (fun i => (g i).getD false) m
  | 0, c, h => ⟨fun i hi => by omega, by injection h with h; exact h.symm⟩
  | m + 1, c, h => by
    rw [cntO] at h
    obtain ⟨c', hc, h⟩ := Option.bind_eq_some_iff.mp h
    obtain ⟨b, hb, h⟩ := Option.bind_eq_some_iff.mp h
    injection h with h
    obtain ⟨h1, h2⟩ := cntO_some hc
    refine ⟨fun i hi => ?_, ?_⟩
    · by_cases e : i = m
      · subst e; rw [hb]; rfl
      · exact h1 i (by omega)
    · rw [cnt, ← h2, hb, ← h]; rfl
theorem cntO_ev {g : Nat → Nat → Option Bool} {p : Nat → Bool} : ∀ {m : Nat}, (∀ i, i < m → Ev (fun k => g k i) (p i)) → Ev (fun k => cntO (g k) m) (cnt p m)
  | 0, _ => Ev.now 0
  | m + 1, h => Ev.bind (cntO_ev (fun i hi => h i (by omega))) (Ev.bind (h m (by omega)) (Ev.now _))
end Go.Proofs.Ytfnbcbjgjoobpaa.M
