/- Functions of the given program as plain Lean functions, with proofs that their calls compute them, or lemmas on these. Laid by a program of this repo for the seat Ytcelfhphmlhonaa; Lean checks it. -/
import Derived.Test.YtcelfhphmlhonaaKExactLearnTable0
import Derived.Test.YtcelfhphmlhonaaKExactLearnTable2
import Derived.Test.YtcelfhphmlhonaaKExactLearnTable3
import Derived.Test.YtcelfhphmlhonaaKExactLearnTable4
import Derived.Test.YtcelfhphmlhonaaM0
import Derived.Shelf.GgClosure.Gives
import Derived.Deep.RegionHeld3
namespace Go.Proofs.Ytcelfhphmlhonaa.Print
open Go.RowKit Go.Proofs.YtcelfhphmlhonaaW.PrintWords Go.Proofs.YtcelfhphmlhonaaW.PrintLast Go.Proofs.YtcelfhphmlhonaaW.PrintMore
attribute [local go_sem] max2_int min2_int max_two min_two max_three min_three max_four min_four   -- for this text's walks alone
set_option linter.unusedVariables false
set_option linter.unusedSimpArgs false

--OWNPART
/-! ### impl_IsSampleList: function 72 -/
--IMPORT M0
--IMPORT Derived.Shelf.GgClosure.Gives
--IMPORT Derived.Deep.RegionHeld3
open Go.Proofs.Ytcelfhphmlhonaa.M
/-- is a sample one of n variables -/
def impl_IsSampleList.ok (n : Int) (x : S82) : Bool := decide (0 ≤ x.f0 ∧ x.f0 < ((2 ^ n.toNat : Nat) : Int)) && decide (x.f1 = 0 ∨ x.f1 = 1)
def impl_IsSampleList.f (a0 : Int) (l1 : List (S82)) : Option (Bool) := some (decide (0 ≤ a0 ∧ a0 ≤ 5) && decide (l1.length ≤ 40) && l1.all (impl_IsSampleList.ok a0))
theorem impl_IsSampleList.clo (n x0 x1 : Int) (r1 r2 : Bool) (B : Nat) (w : World) (hB : B < w.heap.size) (fn : w.cell? ⟨B, 0, none⟩ = some (.int .i64 n)) (h1 : impl_isInput.f n x0 = some r1) (h2 : impl_isBit.f x1 = some r2) :
    Calls Try.prog 101 #[.agg #[.int .i64 x0, .int .i64 x1], .pointer (some ⟨B, 0, none⟩)] w fun e w' => e = .returned (.bool (!r1 || !r2)) ∧ Below w.heap.size w w' := by
  have A1 := Aside0.mk h1
  have A2 := Aside0.mk h2
  clear h1 h2
  have huT := Try.underlying82
  cases r1
  all_goals
    go_enter Try.func101, Try.ntmps101
    go_wp2_with (first | (go_at_call 61; (with_reducible refine (impl_isInput.calls n x0 _ _ A1.out).mono ?_); rintro e w' ⟨rfl, ⟨nd, rfl⟩⟩) | (go_at_call 102; (with_reducible refine (impl_isBit.calls x1 r2 _ A2.out).mono ?_); rintro e w' ⟨rfl, ⟨nd, rfl⟩⟩))
    go_ret
    refine ⟨?_, ?_⟩
    · first | rfl | (cases r2 <;> rfl)
    · repeat (first | exact Below.refl _ _ | (refine Below.alloc ?_ (by simp) _) | apply pw_below_drewN)
theorem impl_IsSampleList.okv {n : Int} (hn : 0 ≤ n ∧ n ≤ 5) (x : S82) : ∃ r1 r2, impl_isInput.f n x.f0 = some r1 ∧ impl_isBit.f x.f1 = some r2 ∧ (!r1 || !r2) = !impl_IsSampleList.ok n x := by
  obtain ⟨m, rfl⟩ := nat_of hn.1
  refine ⟨decide (0 ≤ x.f0 ∧ x.f0 < ((2 ^ m : Nat) : Int)), decide (x.f1 = 0 ∨ x.f1 = 1), ?_, ?_, ?_⟩
  · unfold impl_isInput.f
    by_cases h : x.f0 ≥ 0
    · rw [if_pos h, if_pos (Int.natCast_nonneg m), shl_one (by omega)]
      congr 1
      apply decide_eq_decide.mpr
      omega
    · rw [if_neg h]
      congr 1; symm
      apply decide_eq_false; omega
  · unfold impl_isBit.f
    by_cases h : x.f1 = 0
    · rw [if_pos h]; congr 1; symm; exact decide_eq_true (.inl h)
    · rw [if_neg h]; congr 1
      by_cases h1 : x.f1 = 1 <;> simp [h, h1]
  · unfold impl_IsSampleList.ok
    rw [Int.toNat_natCast, Bool.not_and]
theorem impl_IsSampleList.contains (n : Int) (hn : 0 ≤ n ∧ n ≤ 5) (B : Nat) (A : Option Addr) (c : Nat) (l : List (S82)) (w : World) (hB : B < w.heap.size) (fn : w.cell? ⟨B, 0, none⟩ = some (.int .i64 n)) (hr : Kd.C k82 w A l.length l) :
    Calls Try.prog 100 #[.slice A l.length c, .func (.func 101) #[] #[.pointer (some ⟨B, 0, none⟩)]] w fun e w' => e = .returned (.bool (!(l.all (impl_IsSampleList.ok n)))) ∧ Below w.heap.size w w' := by
  have hi := impl_Sample_77.any (fun x => !impl_IsSampleList.ok n x) 101 #[.pointer (some ⟨B, 0, none⟩)] (enters_of Try.func101 (by kernel_rfl) rfl) A c l w hr hr.2.1 (fun x W hb => by
    obtain ⟨r1, r2, e1, e2, e3⟩ := impl_IsSampleList.okv hn x
    have := impl_IsSampleList.clo n x.f0 x.f1 r1 r2 B W (Nat.lt_of_lt_of_le hB hb.size) ((hb.cell (p := ⟨B, 0, none⟩) hB).trans fn) e1 e2
    rw [e3] at this
    exact this)
  have HI := Aside0.mk hi
  clear hi
  have hv : decide (0 ≤ impl_Sample_77.idx (fun x => !impl_IsSampleList.ok n x) l) = !(l.all (impl_IsSampleList.ok n)) := by
    unfold impl_Sample_77.idx
    cases h : l.findIdx? (fun x => !impl_IsSampleList.ok n x) with
    | none =>
      rw [List.findIdx?_eq_none_iff] at h
      have : l.all (impl_IsSampleList.ok n) = true := List.all_eq_true.mpr (fun x hx => by simpa using h x hx)
      rw [this]; rfl
    | some i =>
      rw [List.findIdx?_eq_some_iff_getElem] at h
      obtain ⟨hi, h1, _⟩ := h
      have : l.all (impl_IsSampleList.ok n) = false := by
        rw [List.all_eq_false]
        exact ⟨_, List.getElem_mem hi, by simpa using h1⟩
      rw [this]
      exact decide_eq_true (Int.natCast_nonneg i)
  generalize impl_Sample_77.idx (fun x => !impl_IsSampleList.ok n x) l = ix at *
  rw [← hv]
  clear hv
  go_enter Try.func100, Try.ntmps100
  go_wp2_with (first | (go_at_call 77; (with_reducible refine HI.out.mono ?_); rintro e w1 ⟨rfl, hb1⟩))
  go_ret
  exact ⟨rfl, hb1⟩
set_option maxHeartbeats 1600000 in
theorem impl_IsSampleList.calls (a0 : Int) (A1 : Option Addr) (c1 : Nat) (l1 : List (S82)) (r : Bool) (w : World) (hr1 : Kd.C k82 w A1 l1.length l1) (hc1 : l1.length ≤ c1) (h : impl_IsSampleList.f a0 l1 = some r) :
    Calls Try.prog 72 #[.int .i64 a0, .slice A1 l1.length c1] w fun e w' => e = .returned (.bool r) ∧ Below w.heap.size w w' := by
  have hr := Option.some.inj h
  clear h
  have hl := hr1.2.1
  by_cases hb : 0 ≤ a0 ∧ a0 ≤ 5
  · have B1 : Aside0 (impl_isBits.f a0 = some true) := ⟨by unfold impl_isBits.f; rw [if_pos hb.1]; simp [hb.2]⟩
    by_cases h40 : l1.length ≤ 40
    · rw [decide_eq_true hb, decide_eq_true h40, Bool.true_and, Bool.true_and] at hr
      have HB : ∀ nd, Aside0 (Below w.heap.size w ((w.alloc (.cells #[.int .i64 a0] 3)).drewN nd)) := fun nd => ⟨pw_below_drewN ((Below.refl _ _).alloc (Nat.le_refl _) _) nd⟩
      have HC := Aside0.mk (fun nd => impl_IsSampleList.contains a0 hb w.heap.size A1 c1 l1 ((w.alloc (.cells #[.int .i64 a0] 3)).drewN nd) (by simp) (by go_simp) (Kd.C_below hr1 (HB nd).out))
      have h40b : decide ((l1.length : Int) ≤ 40) = true := decide_eq_true (by omega)
      have h40c : decide (l1.length ≤ 40) = true := decide_eq_true h40
      rw [← hr]
      clear hr hb h40 hr1 hc1
      generalize l1.all (impl_IsSampleList.ok a0) = q at *
      go_enter Try.func72, Try.ntmps72
      go_wp2_with (first | (go_at_call 98; (with_reducible refine (impl_isBits.calls a0 true _ B1.out).mono ?_); rintro e w' ⟨rfl, ⟨nd, rfl⟩⟩) | (go_at_call 100; (with_reducible refine (HC.out nd).mono ?_); rintro e w1 ⟨rfl, hb1⟩))
      go_ret
      exact ⟨by cases q <;> rfl, (HB _).out.trans (hb1.mono (HB _).out.size)⟩
    · rw [decide_eq_true hb, decide_eq_false h40] at hr
      have h40b : decide ((l1.length : Int) ≤ 40) = false := decide_eq_false (by omega)
      have h40c : decide (l1.length ≤ 40) = false := decide_eq_false h40
      rw [← hr]
      clear hr hb h40 hr1 hc1
      go_enter Try.func72, Try.ntmps72
      go_wp2_with (first | (go_at_call 98; (with_reducible refine (impl_isBits.calls a0 true _ B1.out).mono ?_); rintro e w' ⟨rfl, ⟨nd, rfl⟩⟩))
      go_ret
      exact ⟨rfl, pw_below_drewN ((Below.refl _ _).alloc (Nat.le_refl _) _) _⟩
  · have B1 : Aside0 (impl_isBits.f a0 = some false) := ⟨by
      unfold impl_isBits.f
      by_cases h0 : a0 ≥ 0
      · rw [if_pos h0]; simp; omega
      · rw [if_neg h0]⟩
    rw [decide_eq_false hb] at hr
    rw [← hr]
    clear hr hb hr1 hc1
    go_enter Try.func72, Try.ntmps72
    go_wp2_with (first | (go_at_call 98; (with_reducible refine (impl_isBits.calls a0 false _ B1.out).mono ?_); rintro e w' ⟨rfl, ⟨nd, rfl⟩⟩))
    go_ret
    exact ⟨rfl, pw_below_drewN ((Below.refl _ _).alloc (Nat.le_refl _) _) _⟩


end Go.Proofs.Ytcelfhphmlhonaa.Print
