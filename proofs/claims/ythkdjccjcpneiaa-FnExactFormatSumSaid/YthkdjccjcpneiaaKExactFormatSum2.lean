/- Functions of the given program as plain Lean functions, with proofs that their calls compute them, or lemmas on these. Laid by a program of this repo for the seat Ythkdjccjcpneiaa; Lean checks it. -/
import Derived.Test.YthkdjccjcpneiaaKExactFormatSum0
import Derived.Test.YthkdjccjcpneiaaM0
import Derived.Shelf.GgClosure.Gives
namespace Go.Proofs.Ythkdjccjcpneiaa.Print
open Go.RowKit Go.Proofs.YthkdjccjcpneiaaW.PrintWords Go.Proofs.YthkdjccjcpneiaaW.PrintLast Go.Proofs.YthkdjccjcpneiaaW.PrintMore
attribute [local go_sem] max2_int min2_int max_two min_two max_three min_three max_four min_four   -- for this text's walks alone
set_option linter.unusedVariables false
set_option linter.unusedSimpArgs false

--OWNPART
/-! ### impl_Term_64: function 64 -/
--IMPORT M0
--IMPORT Derived.Shelf.GgClosure.Gives
open Go.Proofs.Ythkdjccjcpneiaa.M
/-- the first place of a list at which p holds, or -1 -/
def impl_Term_64.idx (p : S54 → Bool) (l : List S54) : Int := match l.findIdx? p with | some i => (i : Int) | none => -1
theorem impl_Term_64.hit (p : S54 → Bool) (l : List S54) (k : Nat) (hk : k < l.length) (h : p (l.getD k z54) = true) (hb : ∀ j, j < k → p (l.getD j z54) = false) : impl_Term_64.idx p l = (k : Int) := by
  have e : l.findIdx? p = some k := by
    rw [List.findIdx?_eq_some_iff_getElem]
    refine ⟨hk, ?_, fun j hj => ?_⟩
    · simpa [List.getD_eq_getElem?_getD, hk] using h
    · have := hb j hj
      simpa [List.getD_eq_getElem?_getD, show j < l.length by omega] using this
  unfold impl_Term_64.idx; rw [e]
theorem impl_Term_64.miss (p : S54 → Bool) (l : List S54) (hb : ∀ j, j < l.length → p (l.getD j z54) = false) : impl_Term_64.idx p l = -1 := by
  have e : l.findIdx? p = none := by
    rw [List.findIdx?_eq_none_iff]
    intro x hx
    obtain ⟨j, hj, rfl⟩ := List.getElem_of_mem hx
    have := hb j hj
    simpa [List.getD_eq_getElem?_getD, hj] using this
  unfold impl_Term_64.idx; rw [e]
set_option maxHeartbeats 2000000 in
theorem impl_Term_64.any (p : S54 → Bool) (g : Nat) (lb : Array Value) (eg : ∀ args w, (callFunc g args).run Try.prog w = .ok (.enter g args) w) (A : Option Addr) (c : Nat) (l : List S54) (w : World) (hr : Kd.C k54 w A l.length l) (hm : l.length ≤ 9223372036854775807)
    (hp : ∀ (x : S54) (W : World), Below w.heap.size w W → Calls Try.prog g (#[.agg #[.int .i64 x.f0, .int .i64 x.f1]] ++ lb) W fun e W' => e = .returned (.bool (p x)) ∧ Below W.heap.size W W') :
    Calls Try.prog 64 #[.slice A l.length c, .func (.func g) #[] lb] w fun e w' => e = .returned (.int .i64 (impl_Term_64.idx p l)) ∧ Below w.heap.size w w' := by
  have huT := Try.underlying54
  have HR := Aside0.mk hr
  have HP := Aside0.mk hp
  clear hr hp
  go_enter Try.func64, Try.ntmps64
  go_wp2
  go_loopg [5, 8] l.length (fun gg _ s8 wr => ∃ kk : Nat, kk ≤ l.length ∧ l.length - kk ≤ gg ∧ s8 = .int .i64 (kk : Int) ∧ Aside0 (Below w.heap.size w wr) ∧ Aside0 (∀ j, j < kk → p (l.getD j z54) = false))
  case atStart => exact ⟨0, Nat.zero_le _, by omega, rfl, ⟨Below.refl _ w⟩, ⟨fun j hj => absurd hj (Nat.not_lt_zero _)⟩⟩
  case round =>
    obtain ⟨kk, hkk, hg, rfl, BW, HA⟩ := hrel
    by_cases hlt : kk < l.length
    · have hltz : (kk : Int) < (l.length : Int) := by omega
      obtain ⟨ad, ea, c0, c1⟩ := at_T54 (Kd.C_below HR.out BW.out) (kk : Int) (by omega) hltz
      cases ea
      have hcall := HP.out (rd_T54 l (kk : Int)) wr BW.out
      have hy : rd_T54 l (kk : Int) = l.getD kk z54 := by simp [rd_T54]
      generalize rd_T54 l (kk : Int) = y at c0 c1 hcall hy
      have HY := Aside0.mk hy
      clear hy
      simp only [Int.toNat_natCast] at c0 c1
      have HC := Aside0.mk hcall
      clear hcall
      cases hq : p y with
      | true =>
        rw [hq] at HC
        go_wp2_with (go_at_fn g; refine HC.out.mono ?_; rintro e w' ⟨rfl, hb'⟩)
        go_ret
        refine ⟨?_, BW.out.trans (hb'.mono BW.out.size)⟩
        rw [impl_Term_64.hit p l kk hlt (by rw [← HY.out]; exact hq) HA.out]
        rfl
      | false =>
        rw [hq] at HC
        go_wp2_with (go_at_fn g; refine HC.out.mono ?_; rintro e w' ⟨rfl, hb'⟩)
        go_roundg (l.length - (kk + 1))
        case measure => omega
        case rel =>
          refine ⟨kk + 1, by omega, by omega, by go_num, ⟨BW.out.trans (hb'.mono BW.out.size)⟩, ⟨fun j hj => ?_⟩⟩
          by_cases e : j = kk
          · subst e
            rw [← HY.out]; exact hq
          · exact HA.out j (by omega)
    · have hltz : ¬ (kk : Int) < (l.length : Int) := by omega
      have hkl : kk = l.length := by omega
      go_wp2
      go_ret
      refine ⟨?_, BW.out⟩
      rw [impl_Term_64.miss p l (fun j hj => HA.out j (by omega))]
      rfl


end Go.Proofs.Ythkdjccjcpneiaa.Print
