/- Functions of the given program as plain Lean functions, with proofs that their calls compute them, or lemmas on these. Laid by a program of this repo for the seat Ytcelfhphmlhonaa; Lean checks it. -/
import Derived.Test.YtcelfhphmlhonaaKExactLeastSet0
import Derived.Test.YtcelfhphmlhonaaM5
import Derived.Shelf.GgClosure.Gives
namespace Go.Proofs.Ytcelfhphmlhonaa.Print
open Go.RowKit Go.Proofs.YtcelfhphmlhonaaW.PrintWords Go.Proofs.YtcelfhphmlhonaaW.PrintLast Go.Proofs.YtcelfhphmlhonaaW.PrintMore
attribute [local go_sem] max2_int min2_int max_two min_two max_three min_three max_four min_four   -- for this text's walks alone
set_option linter.unusedVariables false
set_option linter.unusedSimpArgs false

--OWNPART
/-! ### slices_MinFunc_int_int: function 82 -/
--IMPORT M5
--IMPORT Derived.Shelf.GgClosure.Gives
open Go.Proofs.Ytcelfhphmlhonaa.M
/-- the first of the least of the first i + 1 numbers of a list -/
def slices_MinFunc_int_int.best (cf : Int → Int → Int) (l : List Int) : Nat → Int
  | 0 => l.getD 0 0
  | i + 1 => if cf (l.getD (i + 1) 0) (slices_MinFunc_int_int.best cf l i) < 0 then l.getD (i + 1) 0 else slices_MinFunc_int_int.best cf l i
theorem slices_MinFunc_int_int.mem (cf : Int → Int → Int) (l : List Int) : ∀ i, i < l.length → slices_MinFunc_int_int.best cf l i ∈ l
  | 0, h => by rw [slices_MinFunc_int_int.best, List.getD_eq_getElem?_getD, List.getElem?_eq_getElem h]; exact List.getElem_mem h
  | i + 1, h => by
    rw [slices_MinFunc_int_int.best]
    split
    · rw [List.getD_eq_getElem?_getD, List.getElem?_eq_getElem h]; exact List.getElem_mem h
    · exact slices_MinFunc_int_int.mem cf l i (by omega)
set_option maxHeartbeats 2000000 in
theorem slices_MinFunc_int_int.call (cf : Int → Int → Int) (g : Nat) (lb : Array Value) (eg : ∀ args w, (callFunc g args).run Try.prog w = .ok (.enter g args) w) (A : Option Addr) (c : Nat) (l : List Int) (w : World) (hr : Kd.C (Kd.int .i64) w A l.length l) (hm : l.length ≤ 9223372036854775806) (h0 : 0 < l.length)
    (hp : ∀ (x y : Int) (W : World), x ∈ l → y ∈ l → Below w.heap.size w W → Calls Try.prog g (#[.int .i64 x, .int .i64 y] ++ lb) W fun e W' => e = .returned (.int .i64 (cf x y)) ∧ Below W.heap.size W W') :
    Calls Try.prog 82 #[.slice A l.length c, .func (.func g) #[] lb] w fun e w' => e = .returned (.int .i64 (slices_MinFunc_int_int.best cf l (l.length - 1))) ∧ Below w.heap.size w w' := by
  obtain ⟨ad, ea, c0⟩ := Kd.at_int hr 0 (by omega) (by omega)
  subst ea
  have hy0 : rd l 0 = l.getD 0 0 := by simp [rd]
  rw [hy0] at c0
  replace c0 : w.cell? ad = some (.int .i64 (l.getD 0 0)) := by simpa [Addr.add] using c0
  have HR := Aside0.mk hr
  have HP := Aside0.mk hp
  have H0 := Aside0.mk h0
  clear hr hp hy0
  have hl1 : decide ((l.length : Int) < 1) = false := decide_eq_false (by omega)
  have hl0 : (0 : Int) < (l.length : Int) := by omega
  have HS : Aside0 (slices_MinFunc_int_int.best cf l 0 = l.getD 0 0) := ⟨rfl⟩
  generalize l.getD 0 0 = y0 at c0 HS
  clear h0
  go_enter Try.func82, Try.ntmps82
  go_wp2
  go_loopg [5, 6] l.length (fun gg s5 s6 wr => ∃ kk : Nat, kk + 1 ≤ l.length ∧ l.length - (kk + 1) ≤ gg ∧ s5 = .int .i64 (slices_MinFunc_int_int.best cf l kk) ∧ s6 = .int .i64 ((kk : Int) + 1) ∧ Aside0 (Below w.heap.size w wr))
  case atStart => exact ⟨0, by have := H0.out; omega, by omega, by rw [HS.out], rfl, ⟨Below.refl _ w⟩⟩
  case round =>
    obtain ⟨kk, hkk, hg, rfl, rfl, BW⟩ := hrel
    clear c0 HS
    by_cases hlt : kk + 1 < l.length
    · have hltz : (kk : Int) + 1 < (l.length : Int) := by omega
      have hk0 : (0 : Int) ≤ (kk : Int) + 1 := by omega
      have c1 : ∀ W, Below w.heap.size w W → W.cell? ⟨ad.block, ad.off + (kk + 1), none⟩ = some (.int .i64 (l.getD (kk + 1) 0)) := fun W hb => by
        obtain ⟨ad', ea, c0⟩ := Kd.at_int (Kd.C_below HR.out hb) ((kk : Int) + 1) hk0 hltz
        cases ea
        have hy : rd l ((kk : Int) + 1) = l.getD (kk + 1) 0 := rd_nat l (kk + 1)
        rw [hy] at c0
        exact c0
      have hmem : l.getD (kk + 1) 0 ∈ l := by
        rw [List.getD_eq_getElem?_getD, List.getElem?_eq_getElem hlt]; exact List.getElem_mem hlt
      have hcall := HP.out (l.getD (kk + 1) 0) (slices_MinFunc_int_int.best cf l kk) wr hmem (slices_MinFunc_int_int.mem cf l kk (by omega)) BW.out
      have hnext : slices_MinFunc_int_int.best cf l (kk + 1) = if cf (l.getD (kk + 1) 0) (slices_MinFunc_int_int.best cf l kk) < 0 then l.getD (kk + 1) 0 else slices_MinFunc_int_int.best cf l kk := rfl
      have CC := Aside0.mk c1
      have d0 := c1 wr BW.out
      clear hmem c1
      generalize l.getD (kk + 1) 0 = y at *
      generalize slices_MinFunc_int_int.best cf l kk = b at *
      generalize cf y b = q at *
      have HN := Aside0.mk hnext
      have HC := Aside0.mk hcall
      clear hnext hcall
      have e1 : ((kk : Int) + 1).toNat = kk + 1 := by omega
      have e2 : wrap64 ((kk : Int) + 1 + 1) = ((kk + 1 : Nat) : Int) + 1 := by have := HR.out.2.1; rw [w64 (by omega) (by omega)]; omega
      by_cases hq : q < 0
      · have hqd : decide (q < 0) = true := decide_eq_true hq
        have HQ := Aside0.mk hq
        clear hq
        go_wp2_with (go_at_fn g; refine HC.out.mono ?_; rintro e w' ⟨rfl, hb'⟩; have d1 := CC.out w' (BW.out.trans (hb'.mono BW.out.size)))
        go_roundg (l.length - (kk + 1 + 1))
        case measure => omega
        case rel => exact ⟨kk + 1, by omega, by omega, by rw [HN.out, if_pos HQ.out], by push_cast; rfl, ⟨BW.out.trans (hb'.mono BW.out.size)⟩⟩
      · have hqd : decide (q < 0) = false := decide_eq_false hq
        have HQ := Aside0.mk hq
        clear hq
        go_wp2_with (go_at_fn g; refine HC.out.mono ?_; rintro e w' ⟨rfl, hb'⟩)
        go_roundg (l.length - (kk + 1 + 1))
        case measure => omega
        case rel => exact ⟨kk + 1, by omega, by omega, by rw [HN.out, if_neg (Int.not_lt.mpr HQ.out)], by push_cast; rfl, ⟨BW.out.trans (hb'.mono BW.out.size)⟩⟩
    · have hltz : ¬ (kk : Int) + 1 < (l.length : Int) := by omega
      have hkl : kk = l.length - 1 := by omega
      subst hkl
      go_wp2
      go_ret
      exact ⟨rfl, BW.out⟩


end Go.Proofs.Ytcelfhphmlhonaa.Print
