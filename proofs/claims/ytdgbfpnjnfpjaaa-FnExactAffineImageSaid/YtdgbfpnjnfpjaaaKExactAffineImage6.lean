/- Functions of the given program as plain Lean functions, with proofs that their calls compute them, or lemmas on these. Laid by a program of this repo for the seat Ytdgbfpnjnfpjaaa; Lean checks it. -/
import Derived.Test.YtdgbfpnjnfpjaaaKExactAffineImage0
import Derived.Test.YtdgbfpnjnfpjaaaKExactAffineImage2
import Derived.Test.YtdgbfpnjnfpjaaaKExactAffineImage4
import Derived.Test.YtdgbfpnjnfpjaaaKExactAffineImage5
import Derived.Test.YtdgbfpnjnfpjaaaM4
import Derived.Shelf.GgClosure.Gives
import Derived.Deep.RegionHeld3
namespace Go.Proofs.Ytdgbfpnjnfpjaaa.Print
open Go.RowKit Go.Proofs.YtdgbfpnjnfpjaaaW.PrintWords Go.Proofs.YtdgbfpnjnfpjaaaW.PrintLast Go.Proofs.YtdgbfpnjnfpjaaaW.PrintMore
attribute [local go_sem] max2_int min2_int max_two min_two max_three min_three max_four min_four   -- for this text's walks alone
set_option linter.unusedVariables false
set_option linter.unusedSimpArgs false

--OWNPART
/-! ### impl_IsInvertible: function 17 -/
--IMPORT M4
--IMPORT Derived.Shelf.GgClosure.Gives
--IMPORT Derived.Deep.RegionHeld3
open Go.Proofs.Ytdgbfpnjnfpjaaa.M
def impl_IsInvertible.f (a0 : Int) (l1 : List Int) : Option (Bool) := some (invB a0 l1)
theorem impl_IsInvertible.image_ev {l : List Int} {n x : Nat} (hn : l.length = n) (h5 : n ≤ 5) (hl : ∀ j, j < n → cols l j < 32 ∧ l.getD j 0 = ((cols l j : Nat) : Int)) (hx : x < 2 ^ 63) :
    Ev (fun k => impl_image.f k l (x : Int)) ((img (cols l) x n : Nat) : Int) := by
  subst hn
  have key : ∀ d i, i + d = l.length → Ev (fun k => impl_image.l0 k (x : Int) ((img (cols l) x i : Nat) : Int) l (l.length : Int) (i : Int)) ((img (cols l) x l.length : Nat) : Int) := by
    refine Ev.count (fun k i => impl_image.l0 k (x : Int) ((img (cols l) x i : Nat) : Int) l (l.length : Int) (i : Int)) l.length _ ?_ ?_
    · intro i hi h
      refine Ev.step (fun k => ?_) h
      obtain ⟨h1, h2⟩ := hl i hi
      have h3 : img (cols l) x i < 2 ^ 5 := img_lt x (fun j hj => (hl j (by omega)).1)
      have e : rd l (i : Int) = ((cols l i : Nat) : Int) := by rw [← h2]; simp [rd]
      simp only [impl_image.l0]
      rw [if_pos (by omega), if_pos (by omega), if_pos (by omega), bit_nat hx (by omega), e, up1 (by omega), xor_nat (by omega) (by omega)]
      rw [img]
      cases x.testBit i <;> simp
    · refine Ev.end (fun k => ?_)
      simp only [impl_image.l0]
      rw [if_neg (by omega)]
  exact key l.length 0 (by omega)
theorem impl_IsInvertible.input_ev {n : Nat} (hn : n ≤ 5) (c : Int) : impl_isInput.f (n : Int) c = some (decide (0 ≤ c ∧ c < ((2 ^ n : Nat) : Int))) := by
  unfold impl_isInput.f
  by_cases h : c ≥ 0
  · rw [if_pos h, if_pos (Int.natCast_nonneg n), shl_one (by omega)]
    congr 1
    apply decide_eq_decide.mpr
    omega
  · rw [if_neg h]
    congr 1; symm
    apply decide_eq_false; omega
theorem impl_IsInvertible.clo {n : Nat} (hn : n ≤ 5) (c : Int) (B : Nat) (w : World) (fn : w.cell? ⟨B, 0, none⟩ = some (.int .i64 (n : Int))) :
    Calls Try.prog 52 #[.int .i64 c, .pointer (some ⟨B, 0, none⟩)] w fun e w' => e = .returned (.bool (!decide (0 ≤ c ∧ c < ((2 ^ n : Nat) : Int)))) ∧ Below w.heap.size w w' := by
  have A1 := Aside0.mk (impl_IsInvertible.input_ev hn c)
  generalize decide (0 ≤ c ∧ c < ((2 ^ n : Nat) : Int)) = q at *
  go_enter Try.func52, Try.ntmps52
  go_wp2_with (first | (go_at_call 53; (with_reducible refine (impl_isInput.calls (n : Int) c _ _ A1.out).mono ?_); rintro e w' ⟨rfl, ⟨nd, rfl⟩⟩))
  go_ret
  exact ⟨rfl, by repeat (first | exact Below.refl _ _ | (refine Below.alloc ?_ (by simp) _) | apply pw_below_drewN)⟩
theorem impl_IsInvertible.isBits_ev (a : Int) : impl_isBits.f a = some (decide (0 ≤ a ∧ a ≤ 5)) := by
  unfold impl_isBits.f
  by_cases h0 : a ≥ 0
  · rw [if_pos h0]; congr 1; apply decide_eq_decide.mpr; omega
  · rw [if_neg h0]; congr 1; symm; apply decide_eq_false; omega
theorem impl_IsInvertible.contains {n : Nat} (hn : n ≤ 5) (B : Nat) (A : Option Addr) (c : Nat) (l : List Int) (w : World) (hB : B < w.heap.size) (fn : w.cell? ⟨B, 0, none⟩ = some (.int .i64 (n : Int))) (hr : Kd.C (Kd.int .i64) w A l.length l) :
    Calls Try.prog 51 #[.slice A l.length c, .func (.func 52) #[] #[.pointer (some ⟨B, 0, none⟩)]] w fun e w' => e = .returned (.bool (!(l.all (fun c => decide (0 ≤ c ∧ c < ((2 ^ n : Nat) : Int)))))) ∧ Below w.heap.size w w' := by
  have h := slices_ContainsFunc_int_int.call (fun c => !decide (0 ≤ c ∧ c < ((2 ^ n : Nat) : Int))) 52 #[.pointer (some ⟨B, 0, none⟩)] (enters_of Try.func52 (by kernel_rfl) rfl) A c l w hr hr.2.1
    (fun x W _ hb => impl_IsInvertible.clo hn x B W ((hb.cell (p := ⟨B, 0, none⟩) hB).trans fn))
  rw [List.any_eq_not_all_not] at h
  simpa using h
set_option maxHeartbeats 1600000 in
theorem impl_IsInvertible.loops {n : Nat} (hn : n ≤ 5) (A1 : Option Addr) (c1 : Nat) (l1 : List Int) (w : World) (hr1 : Kd.C (Kd.int .i64) w A1 l1.length l1) (hc1 : l1.length ≤ c1) (hln : l1.length = n)
    (hall : l1.all (fun c => decide (0 ≤ c ∧ c < ((2 ^ n : Nat) : Int))) = true) :
    Calls Try.prog 17 #[.int .i64 (n : Int), .slice A1 l1.length c1] w fun e w' => e = .returned (.bool (indB (cols l1) n)) ∧ Below w.heap.size w w' := by
  have h32 := pow_le_5 hn
  have hcol : ∀ j, j < n → cols l1 j < 32 ∧ l1.getD j 0 = ((cols l1 j : Nat) : Int) := fun j hj => by
    obtain ⟨h1, h2⟩ := cols_of hall (show j < l1.length by omega)
    exact ⟨by omega, h2⟩
  have B1 : Aside0 (impl_isBits.f (n : Int) = some true) := ⟨by rw [impl_IsInvertible.isBits_ev, decide_eq_true (by omega)]⟩
  have HB : ∀ nd, Aside0 (Below w.heap.size w ((w.alloc (.cells #[.int .i64 (n : Int)] 3)).drewN nd)) := fun nd => ⟨pw_below_drewN ((Below.refl _ _).alloc (Nat.le_refl _) _) nd⟩
  have HC := Aside0.mk (fun nd => impl_IsInvertible.contains hn w.heap.size A1 c1 l1 ((w.alloc (.cells #[.int .i64 (n : Int)] 3)).drewN nd) (by simp) (by go_simp) (Kd.C_below hr1 (HB nd).out))
  have HI := Aside0.mk (fun x (hx : x < 2 ^ 63) => impl_IsInvertible.image_ev (l := l1) (x := x) hln hn hcol hx)
  rw [hall] at HC
  have e1 : ((l1.length : Int) != (n : Int)) = false := by simp [hln]
  have e2 : decide ((l1.length : Int) ≠ (n : Int)) = false := by simp [hln]
  have e3 : ((l1.length : Int) == (n : Int)) = true := by simp [hln]
  have HR := Aside0.mk hr1
  have HCC := Aside0.mk hc1
  have e10 : shl .i64 1 (n : Int) = ((2 ^ n : Nat) : Int) := shl_one (by omega)
  have E10 := Aside0.mk e10
  have e11 : wrap64 ((2 : Int) ^ n) = ((2 ^ n : Nat) : Int) := by rw [← e10, shl, min_bits (by omega), Int.one_mul, i64_w]
  have HL := Aside0.mk hln
  clear hr1 hc1 hall hcol hln
  obtain ⟨M, hM⟩ : ∃ M, M = 2 ^ n := ⟨_, rfl⟩
  have HM := Aside0.mk hM
  rw [← hM] at e11 h32
  clear e10 E10 hM
  go_enter Try.func17, Try.ntmps17
  go_wp2_with (first | (go_at_call 50; (with_reducible refine (impl_isBits.calls (n : Int) true _ B1.out).mono ?_); rintro e w' ⟨rfl, ⟨nd, rfl⟩⟩) | (go_at_call 51; (with_reducible refine (HC.out nd).mono ?_); rintro e w1 ⟨rfl, hb1⟩))
  have hM1 : 1 ≤ M := by have := Nat.two_pow_pos n; rw [HM.out]; omega
  have CN : Aside0 (w1.cell? ⟨w.heap.size, 0, none⟩ = some (.int .i64 (n : Int))) := ⟨(hb1.cell (p := ⟨w.heap.size, 0, none⟩) (by simp)).trans (by go_simp)⟩
  have BW := Aside0.mk ((HB nd).out.trans (hb1.mono (HB nd).out.size))
  clear hb1 HB HC B1
  go_loopw [5] (fun v5 wr => ∃ x : Nat, 1 ≤ x ∧ x ≤ M ∧ v5 = .int .i64 (x : Int) ∧ Aside0 (wr.cell? ⟨w.heap.size, 0, none⟩ = some (.int .i64 (n : Int))) ∧ Aside0 (Below w.heap.size w wr) ∧ Aside0 (∀ y, 1 ≤ y → y < x → img (cols l1) y n ≠ 0)) (fun v5 _ => M - (intOf v5).toNat)
  case atStart => exact ⟨1, Nat.le_refl _, hM1, rfl, CN, BW, ⟨fun y h1 h2 => by omega⟩⟩
  case round =>
    clear CN BW
    obtain ⟨x, hx1, hx, rfl, CN, BW, HA⟩ := hrel
    have c0 := CN.out
    by_cases hlt : x < M
    · obtain ⟨kk, hk⟩ := (HI.out x (by omega)).rounds
      have HC2 := Aside0.mk (impl_image.calls kk A1 c1 l1 (x : Int) _ wr (Kd.C_below HR.out BW.out) HCC.out hk)
      obtain ⟨v, hv⟩ : ∃ v : Int, v = ((img (cols l1) x n : Nat) : Int) := ⟨_, rfl⟩
      rw [← hv] at HC2
      have HV := Aside0.mk hv
      clear hv hk
      by_cases hz : v = 0
      · subst hz
        go_wp2_with (first | (go_at_call 54; (with_reducible refine HC2.out.mono ?_); rintro e w' ⟨rfl, ⟨nd', rfl⟩⟩))
        go_ret
        refine ⟨?_, pw_below_drewN BW.out nd'⟩
        have e : indB (cols l1) n = false := allB_false (i := x) (by rw [← HM.out]; exact hlt) (by
          have h1 := HV.out
          have h2 : img (cols l1) x n = 0 := by omega
          rw [h2]
          have h3 : (x == 0) = false := beq_eq_false_iff_ne.mpr (by omega)
          rw [h3]; rfl)
        rw [e]; rfl
      · have hz1 : (v == 0) = false := beq_eq_false_iff_ne.mpr hz
        have HZ := Aside0.mk hz
        clear hz
        go_wp2_with (first | (go_at_call 54; (with_reducible refine HC2.out.mono ?_); rintro e w' ⟨rfl, ⟨nd', rfl⟩⟩))
        go_roundw
        case rel =>
          refine ⟨x + 1, by omega, by omega, by go_num, ⟨by go_simp⟩, ⟨pw_below_drewN BW.out nd'⟩, ⟨fun y h1 h2 => ?_⟩⟩
          by_cases e : y = x
          · subst e; intro h; apply HZ.out; rw [HV.out, h]; try rfl
          · exact HA.out y h1 (by omega)
        case measure => simp [intOf]; omega
    · obtain rfl : x = M := by omega
      go_wp2
      go_ret
      refine ⟨?_, BW.out⟩
      rw [show indB (cols l1) n = true from indB_iff.mpr (fun y h1 h2 => HA.out y h1 (by rw [HM.out]; exact h2))]; rfl
set_option maxHeartbeats 1600000 in
theorem impl_IsInvertible.calls (a0 : Int) (A1 : Option Addr) (c1 : Nat) (l1 : List Int) (r : Bool) (w : World) (hr1 : Kd.C (Kd.int .i64) w A1 l1.length l1) (hc1 : l1.length ≤ c1) (h : impl_IsInvertible.f a0 l1 = some r) :
    Calls Try.prog 17 #[.int .i64 a0, .slice A1 l1.length c1] w fun e w' => e = .returned (.bool r) ∧ Below w.heap.size w w' := by
  have hr := Option.some.inj h
  clear h
  unfold invB at hr
  by_cases hb : 0 ≤ a0 ∧ a0 ≤ 5
  · obtain ⟨n, rfl⟩ := nat_of hb.1
    have hn : n ≤ 5 := by omega
    rw [decide_eq_true hb, Bool.true_and, Int.toNat_natCast] at hr
    by_cases hl : (l1.length : Int) = (n : Int)
    · rw [decide_eq_true hl, Bool.true_and] at hr
      cases ha : l1.all (fun c => decide (0 ≤ c ∧ c < ((2 ^ n : Nat) : Int))) with
      | true =>
        rw [ha, Bool.true_and] at hr
        rw [← hr]
        exact impl_IsInvertible.loops hn A1 c1 l1 w hr1 hc1 (by omega) ha
      | false =>
        rw [ha, Bool.false_and] at hr
        rw [← hr]
        have B1 : Aside0 (impl_isBits.f (n : Int) = some true) := ⟨by rw [impl_IsInvertible.isBits_ev, decide_eq_true (by omega)]⟩
        have HB : ∀ nd, Aside0 (Below w.heap.size w ((w.alloc (.cells #[.int .i64 (n : Int)] 3)).drewN nd)) := fun nd => ⟨pw_below_drewN ((Below.refl _ _).alloc (Nat.le_refl _) _) nd⟩
        have HC := Aside0.mk (fun nd => impl_IsInvertible.contains hn w.heap.size A1 c1 l1 ((w.alloc (.cells #[.int .i64 (n : Int)] 3)).drewN nd) (by simp) (by go_simp) (Kd.C_below hr1 (HB nd).out))
        rw [ha] at HC
        have e1 : ((l1.length : Int) != (n : Int)) = false := by simp; omega
        have e2 : decide ((l1.length : Int) ≠ (n : Int)) = false := by simp; omega
        have e3 : ((l1.length : Int) == (n : Int)) = true := by simp; omega
        clear hr ha hl hr1 hc1 hb
        go_enter Try.func17, Try.ntmps17
        go_wp2_with (first | (go_at_call 50; (with_reducible refine (impl_isBits.calls (n : Int) true _ B1.out).mono ?_); rintro e w' ⟨rfl, ⟨nd, rfl⟩⟩) | (go_at_call 51; (with_reducible refine (HC.out nd).mono ?_); rintro e w1 ⟨rfl, hb1⟩))
        go_ret
        exact ⟨rfl, (HB _).out.trans (hb1.mono (HB _).out.size)⟩
    · rw [decide_eq_false hl] at hr
      rw [← hr]
      have B1 : Aside0 (impl_isBits.f (n : Int) = some true) := ⟨by rw [impl_IsInvertible.isBits_ev, decide_eq_true (by omega)]⟩
      have e1 : ((l1.length : Int) != (n : Int)) = true := by simp; omega
      have e2 : decide ((l1.length : Int) ≠ (n : Int)) = true := by simp; omega
      have e3 : ((l1.length : Int) == (n : Int)) = false := by simp; omega
      clear hr hl hr1 hc1 hb
      go_enter Try.func17, Try.ntmps17
      go_wp2_with (first | (go_at_call 50; (with_reducible refine (impl_isBits.calls (n : Int) true _ B1.out).mono ?_); rintro e w' ⟨rfl, ⟨nd, rfl⟩⟩))
      go_ret
      exact ⟨rfl, pw_below_drewN ((Below.refl _ _).alloc (Nat.le_refl _) _) _⟩
  · have B1 : Aside0 (impl_isBits.f a0 = some false) := ⟨by rw [impl_IsInvertible.isBits_ev, decide_eq_false hb]⟩
    rw [decide_eq_false hb] at hr
    rw [← hr]
    clear hr hb hr1 hc1
    go_enter Try.func17, Try.ntmps17
    go_wp2_with (first | (go_at_call 50; (with_reducible refine (impl_isBits.calls a0 false _ B1.out).mono ?_); rintro e w' ⟨rfl, ⟨nd, rfl⟩⟩))
    go_ret
    exact ⟨rfl, pw_below_drewN ((Below.refl _ _).alloc (Nat.le_refl _) _) _⟩


end Go.Proofs.Ytdgbfpnjnfpjaaa.Print
