/- A row of two bytes that a constant text was turned into: it is only read. No program in sight but its types. -/
import Derived.Test.YtmdpjmcleckedaaDoorWMore
import Derived.Test.YtmdpjmcleckedaaDoorWLast
import Derived.Lib.SlBytesConst
namespace Go.Proofs.YtmdpjmcleckedaaDoor.M
open Go Go.RowKit Go.Proofs.YtmdpjmcleckedaaDoorW.PrintWords Go.Proofs.YtmdpjmcleckedaaDoorW.PrintLast
set_option linter.unusedVariables false
set_option linter.unusedSimpArgs false

theorem two_bytes {wc : World} {base e : Nat} {ok : Nat → Prop} (a b : Int) (hok : ok wc.heap.size) :
    Kd.V (Kd.int .u8) e (wc.alloc (.cells #[.int .u8 a, .int .u8 b] e (2, 3))) base ok (.slice (some ⟨wc.heap.size, 0, none⟩) 2 2) [a, b] := by
  refine ⟨some ⟨wc.heap.size, 0, none⟩, 2, rfl, Nat.le_refl _, fun W' hW => ⟨rfl, by show (2 : Nat) ≤ _; omega, fun _ => ⟨_, rfl, fun j p hp => ?_⟩⟩⟩
  have h1 : W'.heap[wc.heap.size]? = some (.cells #[.int .u8 a, .int .u8 b] e (2, 3)) := by
    rw [hW wc.heap.size hok (by show wc.heap.size < (wc.heap.push _).size; simp)]
    show (wc.heap.push _)[wc.heap.size]? = _
    simp
  have hj : j = 0 ∨ j = 1 := by
    have := (List.getElem?_eq_some_iff.mp hp).1
    have : j < 2 := this
    omega
  rcases hj with rfl | rfl
  · cases hp
    refine ⟨[.int .u8 a], rfl, rfl, fun i u hu => ?_⟩
    have hi : i = 0 := by have := (List.getElem?_eq_some_iff.mp hu).1; simp at this; omega
    subst hi
    cases hu
    show W'.cell? ⟨wc.heap.size, 0, none⟩ = _
    simp [World.cell?, h1]
  · cases hp
    refine ⟨[.int .u8 b], rfl, rfl, fun i u hu => ?_⟩
    have hi : i = 0 := by have := (List.getElem?_eq_some_iff.mp hu).1; simp at this; omega
    subst hi
    cases hu
    show W'.cell? ⟨wc.heap.size, 1, none⟩ = _
    simp [World.cell?, h1]
theorem two_below (wc : World) (o : Obj) : Below wc.heap.size wc (wc.alloc o) := (Below.refl _ _).alloc (Nat.le_refl _) _
theorem two_base (wc : World) (n c : Nat) : ∀ k, (Value.slice (some ⟨wc.heap.size, 0, none⟩) n c).ownBlock = some k → wc.heap.size ≤ k := by
  intro k h
  simp [Value.ownBlock] at h
  omega
/-- all that a walk wants to know of such a row, behind names -/
theorem two_made {P : Program} (wc : World) (t e : TypeId) (a b : Int) (ht : P.underlying t = some (.slice e)) (he : P.underlying e = some (.int .u8)) {xs : List Int} (hx : xs = [a, b]) :
    ∃ (A : Option Addr) (c : Nat) (W : World), (convert t t (.slice (some ⟨wc.heap.size, 0, none⟩) 2 2)).run P (wc.alloc (.cells #[.int .u8 a, .int .u8 b] e)) = .ok (.slice A xs.length c) W ∧
      Below wc.heap.size wc W ∧ (∀ k, (Value.slice A xs.length c).ownBlock = some k → wc.heap.size ≤ k) ∧ (∀ base (ok : Nat → Prop), (∀ k, wc.heap.size ≤ k → ok k) → Kd.V (Kd.int .u8) e W base ok (.slice A xs.length c) xs) := by
  subst hx
  exact ⟨_, _, _, Go.Lib.run_convert_bytes_const wc t e #[.int .u8 a, .int .u8 b] 2 2 ht he, two_below wc _, two_base wc 2 2, fun base ok h => two_bytes a b (h _ (Nat.le_refl _))⟩
/-- the row's block is there -/
theorem V_lt {W : World} {base e n c : Nat} {ok : Nat → Prop} {A : Option Addr} {xs : List Int} (h : Kd.V (Kd.int .u8) e W base ok (.slice A n c) xs) (hx : 0 < xs.length) : ∀ k, (Value.slice A n c).ownBlock = some k → k < W.heap.size := by
  obtain ⟨hn, _, hC⟩ := Kd.V_reads' h
  obtain ⟨ad, rfl, hc⟩ := hC.2.2 hx
  obtain ⟨cs, h1, _, h2⟩ := hc 0 _ (List.getElem?_eq_getElem hx)
  have h1' : cs.length = 1 := h1
  have h3 := h2 0 _ (List.getElem?_eq_getElem (by omega))
  intro k hk
  have e1 : ad.block = k := by simpa [Value.ownBlock] using hk
  rcases Nat.lt_or_ge k W.heap.size with h' | h'
  · exact h'
  · exfalso
    have : (ad.add (0 * (Kd.int IntKind.u8).sz + 0)).block = k := e1
    have h4 : W.heap[(ad.add (0 * (Kd.int IntKind.u8).sz + 0)).block]? = none := Array.getElem?_eq_none (by rw [this]; exact h')
    unfold World.cell? at h3
    rw [h4] at h3
    simp at h3
end Go.Proofs.YtmdpjmcleckedaaDoor.M
