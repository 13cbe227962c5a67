/- Functions of the given program as plain Lean functions, with proofs that their calls compute them, or lemmas on these. Laid by a program of this repo for the seat Ythkdjccjcpneiaa; Lean checks it. -/
import Derived.Test.YthkdjccjcpneiaaKExactFormatSum0
import Derived.Test.YthkdjccjcpneiaaKExactFormatSum1
import Derived.Test.YthkdjccjcpneiaaKExactFormatSum2
import Derived.Test.YthkdjccjcpneiaaKExactFormatSum3
import Derived.Test.YthkdjccjcpneiaaM0
import Derived.Shelf.GgClosure.Gives
import Derived.Deep.RegionHeld3
namespace Go.Proofs.Ythkdjccjcpneiaa.Print
open Go.RowKit Go.Proofs.YthkdjccjcpneiaaW.PrintWords Go.Proofs.YthkdjccjcpneiaaW.PrintLast Go.Proofs.YthkdjccjcpneiaaW.PrintMore
attribute [local go_sem] max2_int min2_int max_two min_two max_three min_three max_four min_four   -- for this text's walks alone
set_option linter.unusedVariables false
set_option linter.unusedSimpArgs false

--OWNPART
/-! ### impl_areTerms: function 45 -/
--IMPORT M0
--IMPORT Derived.Shelf.GgClosure.Gives
--IMPORT Derived.Deep.RegionHeld3
open Go.Proofs.Ythkdjccjcpneiaa.M
/-- is it a term of n variables -/
def impl_areTerms.ok (n : Int) (x : S54) : Bool := decide (0 ≤ x.f0 ∧ x.f0 < ((2 ^ n.toNat : Nat) : Int)) && (decide (x.f1 ≥ 0) && (Go.bits .andNot .i64 x.f1 x.f0 == 0))
def impl_areTerms.f (a0 : Int) (l1 : List (S54)) : Option (Bool) := some (decide (0 ≤ a0 ∧ a0 ≤ 5) && l1.all (impl_areTerms.ok a0))
theorem impl_areTerms.clo (n x0 x1 : Int) (r : Bool) (B : Nat) (w : World) (hB : B < w.heap.size) (fn : w.cell? ⟨B, 0, none⟩ = some (.int .i64 n)) (h1 : impl_IsTerm.f n x0 x1 = some r) :
    Calls Try.prog 56 #[.agg #[.int .i64 x0, .int .i64 x1], .pointer (some ⟨B, 0, none⟩)] w fun e w' => e = .returned (.bool (!r)) ∧ Below w.heap.size w w' := by
  have A1 := Aside0.mk h1
  clear h1
  have huT := Try.underlying54
  go_enter Try.func56, Try.ntmps56
  go_wp2_with (first | (go_at_call 57; (with_reducible refine (impl_IsTerm.calls n x0 x1 _ _ A1.out).mono ?_); rintro e w' ⟨rfl, hb⟩))
  go_ret
  refine ⟨?_, ?_⟩
  · first | rfl | (cases r <;> rfl)
  · have HB : Below w.heap.size w (w.alloc (.cells #[.int .i64 x0, .int .i64 x1] 54)) := (Below.refl _ _).alloc (Nat.le_refl _) _
    exact HB.trans (hb.mono HB.size)
theorem impl_areTerms.okv {n : Int} (hn : 0 ≤ n ∧ n ≤ 5) (x : S54) : impl_IsTerm.f n x.f0 x.f1 = some (impl_areTerms.ok n x) := by
  obtain ⟨m, rfl⟩ := nat_of hn.1
  have b1 : impl_isBits.f (m : Int) = some true := by unfold impl_isBits.f; rw [if_pos hn.1]; simp [hn.2]
  have b2 : impl_isInput.f (m : Int) x.f0 = some (decide (0 ≤ x.f0 ∧ x.f0 < ((2 ^ m : Nat) : Int))) := by
    unfold impl_isInput.f
    by_cases h : x.f0 ≥ 0
    · rw [if_pos h, if_pos (Int.natCast_nonneg m), shl_one (by omega)]
      congr 1
      apply decide_eq_decide.mpr
      omega
    · rw [if_neg h]
      congr 1; symm
      apply decide_eq_false; omega
  unfold impl_IsTerm.f impl_areTerms.ok
  rw [b1, b2, Int.toNat_natCast]
  simp only [Option.bind_some, if_true]
  by_cases h : 0 ≤ x.f0 ∧ x.f0 < ((2 ^ m : Nat) : Int)
  · rw [decide_eq_true h, if_pos rfl, Bool.true_and]
    by_cases h1 : x.f1 ≥ 0
    · rw [if_pos h1, decide_eq_true h1, Bool.true_and]
    · rw [if_neg h1, decide_eq_false h1, Bool.false_and]
  · rw [decide_eq_false h, if_neg Bool.false_ne_true, Bool.false_and]
theorem impl_areTerms.contains (n : Int) (hn : 0 ≤ n ∧ n ≤ 5) (B : Nat) (A : Option Addr) (c : Nat) (l : List (S54)) (w : World) (hB : B < w.heap.size) (fn : w.cell? ⟨B, 0, none⟩ = some (.int .i64 n)) (hr : Kd.C k54 w A l.length l) :
    Calls Try.prog 55 #[.slice A l.length c, .func (.func 56) #[] #[.pointer (some ⟨B, 0, none⟩)]] w fun e w' => e = .returned (.bool (!(l.all (impl_areTerms.ok n)))) ∧ Below w.heap.size w w' := by
  have hi := impl_Term_64.any (fun x => !impl_areTerms.ok n x) 56 #[.pointer (some ⟨B, 0, none⟩)] (enters_of Try.func56 (by kernel_rfl) rfl) A c l w hr hr.2.1 (fun x W hb => by
    exact impl_areTerms.clo n x.f0 x.f1 _ B W (Nat.lt_of_lt_of_le hB hb.size) ((hb.cell (p := ⟨B, 0, none⟩) hB).trans fn) (impl_areTerms.okv hn x))
  have HI := Aside0.mk hi
  clear hi
  have hv : decide (0 ≤ impl_Term_64.idx (fun x => !impl_areTerms.ok n x) l) = !(l.all (impl_areTerms.ok n)) := by
    unfold impl_Term_64.idx
    cases h : l.findIdx? (fun x => !impl_areTerms.ok n x) with
    | none =>
      rw [List.findIdx?_eq_none_iff] at h
      have : l.all (impl_areTerms.ok n) = true := List.all_eq_true.mpr (fun x hx => by simpa using h x hx)
      rw [this]; rfl
    | some i =>
      rw [List.findIdx?_eq_some_iff_getElem] at h
      obtain ⟨hi, h1, _⟩ := h
      have : l.all (impl_areTerms.ok n) = false := by
        rw [List.all_eq_false]
        exact ⟨_, List.getElem_mem hi, by simpa using h1⟩
      rw [this]
      exact decide_eq_true (Int.natCast_nonneg i)
  generalize impl_Term_64.idx (fun x => !impl_areTerms.ok n x) l = ix at *
  rw [← hv]
  clear hv
  go_enter Try.func55, Try.ntmps55
  go_wp2_with (first | (go_at_call 64; (with_reducible refine HI.out.mono ?_); rintro e w1 ⟨rfl, hb1⟩))
  go_ret
  exact ⟨rfl, hb1⟩
set_option maxHeartbeats 1600000 in
theorem impl_areTerms.calls (a0 : Int) (A1 : Option Addr) (c1 : Nat) (l1 : List (S54)) (r : Bool) (w : World) (hr1 : Kd.C k54 w A1 l1.length l1) (hc1 : l1.length ≤ c1) (h : impl_areTerms.f a0 l1 = some r) :
    Calls Try.prog 45 #[.int .i64 a0, .slice A1 l1.length c1] w fun e w' => e = .returned (.bool r) ∧ Below w.heap.size w w' := by
  have hr := Option.some.inj h
  clear h
  have hl := hr1.2.1
  by_cases hb : 0 ≤ a0 ∧ a0 ≤ 5
  · have B1 : Aside0 (impl_isBits.f a0 = some true) := ⟨by unfold impl_isBits.f; rw [if_pos hb.1]; simp [hb.2]⟩
    rw [decide_eq_true hb, Bool.true_and] at hr
    have HB : ∀ nd, Aside0 (Below w.heap.size w ((w.alloc (.cells #[.int .i64 a0] 3)).drewN nd)) := fun nd => ⟨pw_below_drewN ((Below.refl _ _).alloc (Nat.le_refl _) _) nd⟩
    have HC := Aside0.mk (fun nd => impl_areTerms.contains a0 hb w.heap.size A1 c1 l1 ((w.alloc (.cells #[.int .i64 a0] 3)).drewN nd) (by simp) (by go_simp) (Kd.C_below hr1 (HB nd).out))
    rw [← hr]
    clear hr hb hr1 hc1
    generalize l1.all (impl_areTerms.ok a0) = q at *
    go_enter Try.func45, Try.ntmps45
    go_wp2_with (first | (go_at_call 54; (with_reducible refine (impl_isBits.calls a0 true _ B1.out).mono ?_); rintro e w' ⟨rfl, ⟨nd, rfl⟩⟩) | (go_at_call 55; (with_reducible refine (HC.out nd).mono ?_); rintro e w1 ⟨rfl, hb1⟩))
    go_ret
    exact ⟨by cases q <;> rfl, (HB _).out.trans (hb1.mono (HB _).out.size)⟩
  · have B1 : Aside0 (impl_isBits.f a0 = some false) := ⟨by
      unfold impl_isBits.f
      by_cases h0 : a0 ≥ 0
      · rw [if_pos h0]; simp; omega
      · rw [if_neg h0]⟩
    rw [decide_eq_false hb] at hr
    rw [← hr]
    clear hr hb hr1 hc1
    go_enter Try.func45, Try.ntmps45
    go_wp2_with (first | (go_at_call 54; (with_reducible refine (impl_isBits.calls a0 false _ B1.out).mono ?_); rintro e w' ⟨rfl, ⟨nd, rfl⟩⟩))
    go_ret
    exact ⟨rfl, pw_below_drewN ((Below.refl _ _).alloc (Nat.le_refl _) _) _⟩


end Go.Proofs.Ythkdjccjcpneiaa.Print
