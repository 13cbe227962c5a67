/- Functions of the given program as plain Lean functions, with proofs that their calls compute them, or lemmas on these. Laid by a program of this repo for the seat Ytpnbeonpicekhaa; Lean checks it. -/
import Derived.Test.YtpnbeonpicekhaaKExactLargestSize0
import Derived.Test.YtpnbeonpicekhaaM5
namespace Go.Proofs.Ytpnbeonpicekhaa.Print
open Go.RowKit Go.Proofs.YtpnbeonpicekhaaW.PrintWords Go.Proofs.YtpnbeonpicekhaaW.PrintLast Go.Proofs.YtpnbeonpicekhaaW.PrintMore
attribute [local go_sem] max2_int min2_int max_two min_two max_three min_three max_four min_four   -- for this text's walks alone
set_option linter.unusedVariables false
set_option linter.unusedSimpArgs false

--OWNPART
/-! ### slices_Max_int_int: function 48 -/
--IMPORT M5
open Go.Proofs.Ytpnbeonpicekhaa.M
/-- the greatest of the first i + 1 numbers -/
def slices_Max_int_int.best (l : List Int) : Nat → Int
  | 0 => l.getD 0 0
  | i + 1 => if slices_Max_int_int.best l i < l.getD (i + 1) 0 then l.getD (i + 1) 0 else slices_Max_int_int.best l i
def slices_Max_int_int.f (l0 : List Int) : Option Int := if 0 < l0.length then some (slices_Max_int_int.best l0 (l0.length - 1)) else none
set_option maxHeartbeats 2000000 in
theorem slices_Max_int_int.calls (A0 : Option Addr) (c0 : Nat) (l0 : List Int) (r : Int) (w : World) (hr0 : Kd.C (Kd.int .i64) w A0 l0.length l0) (hc0 : l0.length ≤ c0) (h : slices_Max_int_int.f l0 = some r) :
    Calls Try.prog 48 #[.slice A0 l0.length c0] w fun e w' => e = .returned (.int .i64 r) ∧ Drawn0 w w' := by
  unfold slices_Max_int_int.f at h
  by_cases h0 : 0 < l0.length
  · rw [if_pos h0] at h
    have h := Option.some.inj h
    obtain ⟨ad, ea, c1⟩ := Kd.at_int hr0 0 (by omega) (by omega)
    subst ea
    have hy0 : rd l0 0 = l0.getD 0 0 := by simp [rd]
    rw [hy0] at c1
    replace c1 : w.cell? ad = some (.int .i64 (l0.getD 0 0)) := by simpa [Addr.add] using c1
    have hm := hr0.2.1
    have HR := Aside0.mk hr0
    have H0 := Aside0.mk h0
    have HRS := Aside0.mk h
    clear hr0 hy0 h
    have hl1 : decide ((l0.length : Int) < 1) = false := decide_eq_false (by omega)
    have hl0 : (0 : Int) < (l0.length : Int) := by omega
    have HS : Aside0 (slices_Max_int_int.best l0 0 = l0.getD 0 0) := ⟨rfl⟩
    generalize l0.getD 0 0 = y0 at c1 HS
    clear h0
    go_enter Try.func48, Try.ntmps48
    go_wp2
    go_loopg [3, 4] l0.length (fun gg s5 s6 wr => ∃ kk : Nat, kk + 1 ≤ l0.length ∧ l0.length - (kk + 1) ≤ gg ∧ s5 = .int .i64 (slices_Max_int_int.best l0 kk) ∧ s6 = .int .i64 ((kk : Int) + 1) ∧ Aside0 (Drawn0 w wr))
    case atStart => exact ⟨0, by have := H0.out; omega, by omega, by rw [HS.out], rfl, ⟨Drawn0.refl w⟩⟩
    case round =>
      obtain ⟨kk, hkk, hg, rfl, rfl, BW⟩ := hrel
      clear c1 HS
      by_cases hlt : kk + 1 < l0.length
      · have hltz : (kk : Int) + 1 < (l0.length : Int) := by omega
        have hk0 : (0 : Int) ≤ (kk : Int) + 1 := by omega
        have c2 : wr.cell? ⟨ad.block, ad.off + (kk + 1), none⟩ = some (.int .i64 (l0.getD (kk + 1) 0)) := by
          obtain ⟨ad', ea, c0⟩ := Kd.at_int (Kd.C_below HR.out BW.out.below) ((kk : Int) + 1) hk0 hltz
          cases ea
          have hy : rd l0 ((kk : Int) + 1) = l0.getD (kk + 1) 0 := rd_nat l0 (kk + 1)
          rw [hy] at c0
          exact c0
        have hnext : slices_Max_int_int.best l0 (kk + 1) = if slices_Max_int_int.best l0 kk < l0.getD (kk + 1) 0 then l0.getD (kk + 1) 0 else slices_Max_int_int.best l0 kk := rfl
        generalize l0.getD (kk + 1) 0 = y at *
        have HN := Aside0.mk hnext
        clear hnext
        generalize slices_Max_int_int.best l0 kk = b at *
        have e1 : ((kk : Int) + 1).toNat = kk + 1 := by omega
        have e2 : wrap64 ((kk : Int) + 1 + 1) = ((kk + 1 : Nat) : Int) + 1 := by rw [w64 (by omega) (by omega)]; omega
        go_wp2
        all_goals
          go_roundg (l0.length - (kk + 1 + 1))
          case measure => omega
          case rel => exact ⟨kk + 1, by omega, by omega, by rw [HN.out]; split <;> first | rfl | (exfalso; omega), by push_cast; rfl, BW⟩
      · have hkl : kk = l0.length - 1 := by omega
        have hkr : slices_Max_int_int.best l0 kk = r := by rw [hkl]; exact HRS.out
        have hd : decide ((kk : Int) + 1 < (l0.length : Int)) = false := decide_eq_false (by omega)
        rw [hkr]
        clear hkl hkr hlt
        go_wp2
        go_ret
        exact ⟨rfl, BW.out⟩
  · rw [if_neg h0] at h; cases h


end Go.Proofs.Ytpnbeonpicekhaa.Print
