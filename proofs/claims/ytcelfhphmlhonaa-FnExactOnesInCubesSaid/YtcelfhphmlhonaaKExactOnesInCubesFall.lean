/- Functions of the given program as plain Lean functions, with proofs that their calls compute them, or lemmas on these. Laid by a program of this repo for the seat Ytcelfhphmlhonaa; Lean checks it. -/
import Derived.Test.YtcelfhphmlhonaaKExactOnesInCubes0
import Derived.Test.YtcelfhphmlhonaaKExactOnesInCubes1
import Derived.Test.YtcelfhphmlhonaaKExactOnesInCubes2
import Derived.Test.YtcelfhphmlhonaaKExactOnesInCubes3
import Derived.Test.YtcelfhphmlhonaaKExactOnesInCubes6
import Derived.Test.YtcelfhphmlhonaaKExactOnesInCubes9
import Derived.Test.YtcelfhphmlhonaaKExactOnesInCubes10
import Derived.Test.YtcelfhphmlhonaaM5
import Derived.Test.YtcelfhphmlhonaaM1
import Derived.Test.YtcelfhphmlhonaaM0
import Derived.Test.YtcelfhphmlhonaaM12
namespace Go.Proofs.Ytcelfhphmlhonaa.Print
open Go.RowKit Go.Proofs.YtcelfhphmlhonaaW.PrintWords Go.Proofs.YtcelfhphmlhonaaW.PrintLast Go.Proofs.YtcelfhphmlhonaaW.PrintMore
attribute [local go_sem] max2_int min2_int max_two min_two max_three min_three max_four min_four   -- for this text's walks alone
set_option linter.unusedVariables false
set_option linter.unusedSimpArgs false

/-! ### facts on laws_eqIntS -/
--IMPORT M5
open Go.Proofs.Ytcelfhphmlhonaa.M in
theorem laws_eqIntS.ev (l : List Int) (h : l.length ≤ 1048576) : Ev (fun k => laws_eqIntS.f k l l) true := by
  have key : ∀ d i, i + d = l.length → Ev (fun k => laws_eqIntS.l0 k l l (i : Int)) true := by
    refine Ev.count (fun k i => laws_eqIntS.l0 k l l (i : Int)) l.length _ ?_ ?_
    · intro i hi hn
      refine Ev.step (fun k => ?_) hn
      simp only [laws_eqIntS.l0, if_true]
      rw [if_pos (by omega), if_pos (by omega), if_pos (by omega), w64 (by omega) (by omega)]; rfl
    · refine Ev.end (fun k => ?_)
      simp only [laws_eqIntS.l0]
      rw [if_neg (by omega)]
  refine Ev.congr (fun k => ?_) (key l.length 0 (by omega))
  unfold laws_eqIntS.f
  rw [if_pos rfl]; rfl

/-! ### facts on laws_markIntS -/
--IMPORT M5
open Go.Proofs.Ytcelfhphmlhonaa.M in
theorem laws_markIntS.ev (l : List Int) (a : Int) (h : l.length ≤ 1048576) (ha : 0 ≤ a) (hb : a ≤ 1000000000000) : Ev (fun k => laws_markIntS.f k l a) (a + (l.length : Int), upTo a l.length) := by
  have key : ∀ d i, i + d = l.length → Ev (fun k => laws_markIntS.l0 k (upTo a i ++ l.drop i) (a + (i : Int)) (i : Int)) (a + (l.length : Int), upTo a l.length) := by
    refine Ev.count (fun k i => laws_markIntS.l0 k (upTo a i ++ l.drop i) (a + (i : Int)) (i : Int)) l.length _ ?_ ?_
    · intro i hi hn
      refine Ev.step (fun k => ?_) hn
      simp only [laws_markIntS.l0]
      rw [if_pos (by rw [upTo_len (by omega)]; omega), if_pos (by omega), Int.toNat_natCast, upTo_set hi, w64 (by omega) (by omega), w64 (by omega) (by omega)]
      congr 1; omega
    · refine Ev.end (fun k => ?_)
      simp only [laws_markIntS.l0]
      rw [upTo_all, if_neg (by rw [upTo_length]; omega)]
  have h0 := key l.length 0 (by omega)
  rw [upTo_zero] at h0
  refine Ev.congr (fun k => ?_) h0
  unfold laws_markIntS.f
  simp

/-! ### facts on laws_heldIntS -/
--IMPORT M5
open Go.Proofs.Ytcelfhphmlhonaa.M in
theorem laws_heldIntS.ev (n : Nat) (a : Int) (h : n ≤ 1048576) (ha : 0 ≤ a) (hb : a ≤ 1000000000000) : Ev (fun k => laws_heldIntS.f k (upTo a n) a) (a + (n : Int)) := by
  have key : ∀ d i, i + d = n → Ev (fun k => laws_heldIntS.l0 k (upTo a n) (a + (i : Int)) (i : Int)) (a + (n : Int)) := by
    refine Ev.count (fun k i => laws_heldIntS.l0 k (upTo a n) (a + (i : Int)) (i : Int)) n _ ?_ ?_
    · intro i hi hn
      refine Ev.step (fun k => ?_) hn
      simp only [laws_heldIntS.l0]
      rw [if_pos (by rw [upTo_length]; omega), if_pos (by omega), upTo_rd hi, if_pos rfl, w64 (by omega) (by omega), w64 (by omega) (by omega)]
      congr 1; omega
    · refine Ev.end (fun k => ?_)
      simp only [laws_heldIntS.l0]
      rw [if_neg (by rw [upTo_length]; omega)]
  refine Ev.congr (fun k => ?_) (key n 0 (by omega))
  unfold laws_heldIntS.f
  simp

/-! ### facts on spec_l2Count -/
--IMPORT M1
open Go.Proofs.Ytcelfhphmlhonaa.M in
theorem spec_l2Count.loop : ∀ (d w acc : Nat), w < 2 ^ d → d ≤ 62 → acc + d ≤ 1000 → Ev (fun k => spec_l2Count.l0 k acc w) ((acc + cnt w.testBit d : Nat) : Int)
  | 0, w, acc, hw, _, ha => by
    obtain rfl : w = 0 := by omega
    refine Ev.end (fun k => ?_)
    simp only [spec_l2Count.l0]
    rw [if_neg (by omega)]; rfl
  | d + 1, w, acc, hw, hd, ha => by
    by_cases h0 : w = 0
    · subst h0
      refine Ev.end (fun k => ?_)
      simp only [spec_l2Count.l0]
      rw [if_neg (by omega), cnt_zero]; rfl
    · have h := spec_l2Count.loop d (w / 2) (acc + w % 2) (by rw [Nat.pow_succ] at hw; omega) (by omega) (by omega)
      rw [show acc + w % 2 + cnt (w / 2).testBit d = acc + cnt w.testBit (d + 1) by rw [cnt_half]; omega] at h
      refine Ev.step (fun k => ?_) h
      have hp := p63 (n := d + 1) hd
      simp only [spec_l2Count.l0]
      rw [if_pos (by omega)]
      have e1 : Go.bits .and .i64 (w : Int) 1 = ((w % 2 : Nat) : Int) := by
        rw [← Nat.and_one_is_mod]; exact and_nat (b := 1) (by omega) (by decide)
      rw [e1, w64 (by omega) (by omega)]
      congr 1
open Go.Proofs.Ytcelfhphmlhonaa.M in
theorem spec_l2Count.ev {w : Nat} (h : w < 2 ^ 32) : Ev (fun k => spec_l2Count.f k w) ((pc w : Nat) : Int) := by
  have := spec_l2Count.loop 32 w 0 h (by omega) (by omega)
  rw [Nat.zero_add] at this
  exact this

/-! ### facts on spec_l1In -/
theorem spec_l1In.ev (a b c : Int) : spec_l1In.f a b c = some (decide (b ≤ a ∧ a ≤ c)) := by
  unfold spec_l1In.f
  by_cases h : b ≤ a
  · rw [if_pos h]; simp [h]
  · rw [if_neg h]; simp [h]

/-! ### facts on spec_IsTable -/
--IMPORT M0
open Go.Proofs.Ytcelfhphmlhonaa.M in
theorem spec_IsTable.ev (a b : Int) : spec_IsTable.f a b = some (isT a b) := by
  unfold spec_IsTable.f isT
  rw [spec_l1In.ev]
  by_cases h : 0 ≤ a ∧ a ≤ 5
  · obtain ⟨n, rfl⟩ := nat_of h.1
    have hn : n ≤ 5 := by omega
    simp only [Option.bind_some, h, and_self, decide_true, if_true]
    rw [full_word hn, spec_l1In.ev]
    simp only [Option.bind_some, Int.toNat_natCast, h, true_and]
    congr 1
    apply decide_eq_decide.mpr
    omega
  · have h' : ¬ (0 ≤ a ∧ a ≤ 5 ∧ 0 ≤ b ∧ b < ((2 ^ 2 ^ a.toNat : Nat) : Int)) := fun e => h ⟨e.1, e.2.1⟩
    simp only [h, h', decide_false, Option.bind_some, Bool.false_eq_true, if_false]

/-! ### facts on spec_l24Fine -/
--IMPORT M12
/-- a table of at most four variables, and a number of them -/
def spec_l24Fine.ok (a b k : Int) : Bool := Go.Proofs.Ytcelfhphmlhonaa.M.isT a b && decide (a ≤ 4) && decide (0 ≤ k ∧ k ≤ a)
open Go.Proofs.Ytcelfhphmlhonaa.M in
theorem spec_l24Fine.ev (a b k : Int) : spec_l24Fine.f a b k = some (spec_l24Fine.ok a b k) := by
  unfold spec_l24Fine.f spec_l24Fine.ok
  rw [spec_IsTable.ev, Option.bind_some]
  cases isT a b with
  | false => rfl
  | true =>
    rw [if_pos rfl, Bool.true_and]
    by_cases h : a ≤ 4
    · rw [if_pos h, decide_eq_true h, spec_l1In.ev]; rfl
    · rw [if_neg h, decide_eq_false h]; rfl
open Go.Proofs.Ytcelfhphmlhonaa.M in
theorem spec_l24Fine.nat {a b k : Int} (h : spec_l24Fine.ok a b k = true) : ∃ n v kk : Nat, a = (n : Int) ∧ b = (v : Int) ∧ k = (kk : Int) ∧ n ≤ 4 ∧ v < 2 ^ 2 ^ n ∧ kk ≤ n := by
  unfold spec_l24Fine.ok at h
  rw [Bool.and_eq_true, Bool.and_eq_true] at h
  obtain ⟨n, v, rfl, rfl, hn, hv⟩ := isT_nat h.1.1
  have h1 := of_decide_eq_true h.1.2
  have h2 := of_decide_eq_true h.2
  exact ⟨n, v, k.toNat, rfl, rfl, by omega, by omega, hv, by omega⟩
open Go.Proofs.Ytcelfhphmlhonaa.M in
theorem spec_l24Fine.mk {n v kk : Nat} (hn : n ≤ 4) (hv : v < 2 ^ 2 ^ n) (hk : kk ≤ n) : spec_l24Fine.ok (n : Int) (v : Int) (kk : Int) = true := by
  unfold spec_l24Fine.ok
  rw [isT_mk (by omega) hv, decide_eq_true (show (n : Int) ≤ 4 by omega), decide_eq_true (show 0 ≤ (kk : Int) ∧ (kk : Int) ≤ (n : Int) by omega)]; rfl

/-! ### facts on spec_l6Word -/
--IMPORT M12
open Go.Proofs.Ytcelfhphmlhonaa.M in
theorem spec_l6Word.ev {n m u : Nat} (hn : n ≤ 5) (hm : m < 2 ^ 32) : Ev (fun k => spec_l6Word.f k (n : Int) (m : Int) (u : Int)) ((prefW (fun x => x &&& m == u) (2 ^ n) : Nat) : Int) := by
  have h5 := pow_le_5 hn
  obtain ⟨g, hg⟩ : ∃ g : Nat → Bool, g = (fun x => x &&& m == u) := ⟨_, rfl⟩
  rw [← hg]
  have hgi : ∀ i, g i = (i &&& m == u) := fun i => by rw [hg]
  clear hg
  exact Ev.count (fun k i => spec_l6Word.l0 k (n : Int) ((prefW g i : Nat) : Int) (i : Int) (m : Int) (u : Int)) (2 ^ n) _ (fun i hi hn' => by
    have ea : Go.bits .and .i64 (i : Int) (m : Int) = ((i &&& m : Nat) : Int) := and_nat (by omega) (by omega)
    by_cases hq : i &&& m = u
    · have hg : g i = true := by rw [hgi]; exact beq_iff_eq.mpr hq
      refine Ev.step (fun k => ?_) hn'
      simp only [spec_l6Word.l0]
      rw [if_pos (Int.natCast_nonneg n), shl_one (n := n) (by omega), if_pos (by omega), ea, if_pos (by omega), if_pos (by omega), prefW_step_one (by omega) hg, up1 (by omega)]
    · have hg : g i = false := by rw [hgi]; exact beq_eq_false_iff_ne.mpr hq
      rw [prefW_skip hg] at hn'
      refine Ev.step (fun k => ?_) hn'
      simp only [spec_l6Word.l0]
      rw [if_pos (Int.natCast_nonneg n), shl_one (n := n) (by omega), if_pos (by omega), ea, if_neg (by omega), up1 (by omega)]) (Ev.end (fun k => by
    simp only [spec_l6Word.l0]
    rw [if_pos (Int.natCast_nonneg n), shl_one (n := n) (by omega), if_neg (by omega)])) (2 ^ n) 0 (by omega)

/-! ### facts on spec_OnesInCubes -/
--IMPORT M12
open Go.Proofs.Ytcelfhphmlhonaa.M in
/-- the answer -/
def spec_OnesInCubes.r (a b k : Int) : List Int := if spec_l24Fine.ok a b k = true then impl_OnesInCubes.tally (2 ^ k.toNat + 1) (cutAll a.toNat b.toNat k.toNat (2 ^ a.toNat)) else []
open Go.Proofs.Ytcelfhphmlhonaa.M in
theorem spec_OnesInCubes.ev (a b k : Int) : Ev (fun q => spec_OnesInCubes.f q a b k) (spec_OnesInCubes.r a b k) := by
  unfold spec_OnesInCubes.r
  refine Ev.congr (f := fun q => if spec_l24Fine.ok a b k = true then (if 0 ≤ k then (if 0 ≤ (wrap64 ((shl .i64 1 k) + 1)) then (if (wrap64 ((shl .i64 1 k) + 1) : Int).toNat ≤ 35184372088832 then (spec_OnesInCubes.l0 q k (List.replicate (wrap64 ((shl .i64 1 k) + 1) : Int).toNat 0) 0 a b) else (none)) else (none)) else (none)) else some []) (fun q => by unfold spec_OnesInCubes.f; rw [spec_l24Fine.ev]; rfl) ?_
  cases hok : spec_l24Fine.ok a b k with
  | false => exact Ev.now _
  | true =>
    obtain ⟨n, v, kk, rfl, rfl, rfl, hn, hv, hk⟩ := spec_l24Fine.nat hok
    have h16 := pow16 hn
    have h16k := pow16 (n := kk) (by omega)
    have hf := full_p63 (n := n) (by omega)
    have el : wrap64 ((shl .i64 1 (kk : Int)) + 1) = ((2 ^ kk + 1 : Nat) : Int) := by
      rw [shl_one (n := kk) (by omega)]
      clear hf hv
      generalize 2 ^ kk = P at h16k ⊢
      rw [w64 (by omega) (by omega)]; omega
    simp only [if_true, Int.toNat_natCast, Int.natCast_nonneg, el]
    refine Ev.congr (fun q => if_pos (by omega)) ?_
    generalize hlen : 2 ^ kk + 1 = len
    have htl := fun l => impl_OnesInCubes.tally_len len l
    have hts := fun l x => impl_OnesInCubes.tally_snoc len l x
    generalize hR : impl_OnesInCubes.tally len (cutAll n v kk (2 ^ n)) = R
    have row : ∀ m, m < 2 ^ n → Ev (fun q => spec_OnesInCubes.l0 q (kk : Int) (impl_OnesInCubes.tally len (cutAll n v kk (m + 1))) ((m + 1 : Nat) : Int) n v) R → Ev (fun q => spec_OnesInCubes.l0 q (kk : Int) (impl_OnesInCubes.tally len (cutAll n v kk m)) (m : Int) n v) R := by
      intro m hm hnext
      have hpn : pc m ≤ n := by have := left_all n (by omega) m (by omega) hm; omega
      have hcount := spec_l2Count.ev (w := m) (by omega)
      have ew : wrap64 ((n : Int) - ((pc m : Nat) : Int)) = (n : Int) - ((pc m : Nat) : Int) := w64 (by omega) (by omega)
      have skip : ∀ (L : List Nat) (u : Nat), u ≤ 1000 → Ev (fun q => spec_OnesInCubes.l1 q (kk : Int) (impl_OnesInCubes.tally len L) (m : Int) ((u + 1 : Nat) : Int) n v) R → Ev (fun q => spec_OnesInCubes.j2 q (kk : Int) (impl_OnesInCubes.tally len L) (m : Int) (u : Int) true n v) R := fun L u hu h => Ev.step (fun q => by
        simp only [spec_OnesInCubes.j2, if_true]
        rw [up1 (by omega)]) h
      by_cases hpk : pc m + kk = n
      · rw [cutAll, if_pos hpk, cutRow_full hm] at hnext
        have inner := Ev.count (fun q u => spec_OnesInCubes.l1 q (kk : Int) (impl_OnesInCubes.tally len (cutAll n v kk m ++ cutRow n v m u)) (m : Int) (u : Int) n v) (m + 1) R (fun u hu hn' => by
          have ea : Go.bits .and .i64 (u : Int) (m : Int) = ((u &&& m : Nat) : Int) := and_nat (by omega) (by omega)
          by_cases hz : andn u m = 0
          · have hum : u &&& m = u := subset_iff.mpr hz
            rw [cutRow, if_pos hz, ← List.append_assoc, hts] at hn'
            have hco := cube_ones hn hv hm hpk (by omega) hz
            have hcw := (cut_word (u := u) hn hv hm hpk).2
            have hpl : pc (cutS n v m u n).2 < len := by
              have h1 := pc_of_lt hcw (32 - 2 ^ kk)
              have h2 := cnt_le (cutS n v m u n).2.testBit (2 ^ kk)
              unfold pc
              rw [show 32 = 2 ^ kk + (32 - 2 ^ kk) by omega, h1]
              omega
            have h6 := spec_l6Word.ev (n := n) (m := m) (u := u) (by omega) (by omega)
            have hw6 := prefW_lt (fun x => x &&& m == u) (2 ^ n)
            have hlt32 : v &&& prefW (fun x => x &&& m == u) (2 ^ n) < 2 ^ 32 := Nat.lt_of_le_of_lt Nat.and_le_left (Nat.lt_of_lt_of_le hv (full_lt (by omega)))
            have hc2 := spec_l2Count.ev hlt32
            rw [← hco] at hc2
            have eand : Go.bits .and .i64 (v : Int) ((prefW (fun x => x &&& m == u) (2 ^ n) : Nat) : Int) = ((v &&& prefW (fun x => x &&& m == u) (2 ^ n) : Nat) : Int) := and_nat (by omega) (by omega)
            have hl2 := htl (cutAll n v kk m ++ cutRow n v m u)
            unfold impl_OnesInCubes.add at hn'
            generalize impl_OnesInCubes.tally len (cutAll n v kk m ++ cutRow n v m u) = T at hn' hl2 ⊢
            generalize prefW (fun x => x &&& m == u) (2 ^ n) = W6 at h6 hc2 eand
            generalize pc (cutS n v m u n).2 = P at hn' hpl hc2
            have hj : Ev (fun q => spec_OnesInCubes.j2 q (kk : Int) T (m : Int) (u : Int) false n v) R := by
              refine Ev.step (f := fun q => (spec_l6Word.f q n m u).bind fun t => (spec_l2Count.f q (Go.bits .and .i64 (v : Int) t)).bind fun t502 => if 0 ≤ t502 then (if t502 < (T.length : Int) then (spec_OnesInCubes.l1 q (kk : Int) (T.set (t502 : Int).toNat (wrap64 ((rd T t502) + 1))) m ((u + 1 : Nat) : Int) n v) else none) else none) (fun q => ?_) (Ev.bind h6 ?_)
              · simp only [spec_OnesInCubes.j2, Bool.false_eq_true, if_false]
                rw [up1 (by omega)]
              · rw [eand]
                refine Ev.bind hc2 (Ev.congr (fun q => (if_pos (Int.natCast_nonneg P)).trans (if_pos (by omega))) ?_)
                rw [Int.toNat_natCast]
                exact hn'
            refine Ev.step (f := fun q => (spec_l2Count.f q (m : Int)).bind fun t => if (wrap64 ((n : Int) - t)) = (kk : Int) then spec_OnesInCubes.j2 q (kk : Int) T (m : Int) (u : Int) false n v else spec_OnesInCubes.j2 q (kk : Int) T (m : Int) (u : Int) true n v) (fun q => ?_) (Ev.bind hcount (Ev.congr (fun q => if_pos (by rw [ew]; omega)) hj))
            simp only [spec_OnesInCubes.l1]
            rw [if_pos (by omega), ea, hum, bne_self_eq_false]
          · rw [cutRow, if_neg hz] at hn'
            have hum : ((u &&& m : Nat) : Int) ≠ (u : Int) := fun e => hz (subset_iff.mp (by omega))
            have hj := skip _ u (by omega) hn'
            refine Ev.step (f := fun q => (spec_l2Count.f q (m : Int)).bind fun t => spec_OnesInCubes.j2 q (kk : Int) (impl_OnesInCubes.tally len (cutAll n v kk m ++ cutRow n v m u)) (m : Int) (u : Int) true n v) (fun q => ?_) (Ev.bind hcount hj)
            simp only [spec_OnesInCubes.l1]
            rw [if_pos (by omega), ea, bne_iff_ne.mpr hum]
            simp only [ite_self]) (Ev.step (fun q => by
          simp only [spec_OnesInCubes.l1]
          rw [if_neg (by omega), up1 (by omega)]) hnext) (m + 1) 0 (by omega)
        refine Ev.step (fun q => ?_) inner
        simp only [spec_OnesInCubes.l0]
        rw [if_pos (Int.natCast_nonneg n), shl_one (by omega), if_pos (by omega), show cutRow n v m 0 = [] from rfl, List.append_nil]; rfl
      · rw [cutAll, if_neg hpk] at hnext
        have inner := Ev.count (fun q u => spec_OnesInCubes.l1 q (kk : Int) (impl_OnesInCubes.tally len (cutAll n v kk m)) (m : Int) (u : Int) n v) (m + 1) R (fun u hu hn' => by
          have hj := skip _ u (by omega) hn'
          refine Ev.step (f := fun q => (spec_l2Count.f q (m : Int)).bind fun t => if (wrap64 ((n : Int) - t)) = (kk : Int) then spec_OnesInCubes.j2 q (kk : Int) (impl_OnesInCubes.tally len (cutAll n v kk m)) (m : Int) (u : Int) ((Go.bits .and .i64 (u : Int) (m : Int)) != (u : Int)) n v else spec_OnesInCubes.j2 q (kk : Int) (impl_OnesInCubes.tally len (cutAll n v kk m)) (m : Int) (u : Int) true n v) (fun q => ?_) (Ev.bind hcount (Ev.congr (fun q => if_neg (by rw [ew]; omega)) hj))
          simp only [spec_OnesInCubes.l1]
          rw [if_pos (by omega)]) (Ev.step (fun q => by
          simp only [spec_OnesInCubes.l1]
          rw [if_neg (by omega), up1 (by omega)]) hnext) (m + 1) 0 (by omega)
        refine Ev.step (fun q => ?_) inner
        simp only [spec_OnesInCubes.l0]
        rw [if_pos (Int.natCast_nonneg n), shl_one (by omega), if_pos (by omega)]; rfl
    exact Ev.count (fun q m => spec_OnesInCubes.l0 q (kk : Int) (impl_OnesInCubes.tally len (cutAll n v kk m)) (m : Int) n v) (2 ^ n) R row (Ev.end (fun q => by
      simp only [spec_OnesInCubes.l0]
      rw [if_pos (Int.natCast_nonneg n), shl_one (by omega), if_neg (by omega), hR])) (2 ^ n) 0 (by omega)

/-! ### facts on impl_isBits -/
theorem impl_isBits.ev (a : Int) : impl_isBits.f a = some (decide (0 ≤ a ∧ a ≤ 5)) := by
  unfold impl_isBits.f
  by_cases h : 0 ≤ a
  · rw [if_pos h]; simp [h]
  · rw [if_neg h]; simp [h]

/-! ### facts on impl_IsTable -/
--IMPORT M0
open Go.Proofs.Ytcelfhphmlhonaa.M in
theorem impl_IsTable.ev (a b : Int) : impl_IsTable.f a b = some (isT a b) := by
  unfold impl_IsTable.f isT
  rw [impl_isBits.ev]
  by_cases h : 0 ≤ a ∧ a ≤ 5
  · obtain ⟨n, rfl⟩ := nat_of h.1
    have hn : n ≤ 5 := by omega
    simp only [Option.bind_some, h, and_self, decide_true, if_true]
    by_cases hb : b ≥ 0
    · obtain ⟨v, rfl⟩ := nat_of hb
      have h5 := pow_le_5 hn
      rw [if_pos hb]
      unfold impl_Table_size.f
      rw [if_pos (Int.natCast_nonneg n), shl_one (by omega)]
      simp only [Option.bind_some]
      rw [if_pos (Int.natCast_nonneg _), shr_nat (by omega)]
      congr 1
      rw [Bool.eq_iff_iff]
      simp only [beq_iff_eq, decide_eq_true_eq, Int.toNat_natCast]
      have hz : v / 2 ^ 2 ^ n = 0 ↔ v < 2 ^ 2 ^ n := Nat.div_eq_zero_iff_lt (Nat.two_pow_pos _)
      rw [show (((v / 2 ^ 2 ^ n : Nat) : Int) = 0 ↔ v / 2 ^ 2 ^ n = 0) from by omega, hz]
      obtain ⟨P, hP⟩ : ∃ P, P = 2 ^ 2 ^ n := ⟨_, rfl⟩
      rw [← hP]
      simp only [h, true_and]
      omega
    · rw [if_neg hb]
      congr 1
      symm
      apply decide_eq_false
      omega
  · have h' : ¬ (0 ≤ a ∧ a ≤ 5 ∧ 0 ≤ b ∧ b < ((2 ^ 2 ^ a.toNat : Nat) : Int)) := fun e => h ⟨e.1, e.2.1⟩
    simp only [h, h', decide_false, Option.bind_some, Bool.false_eq_true, if_false]

/-! ### facts on impl_isSmall -/
--IMPORT M5
open Go.Proofs.Ytcelfhphmlhonaa.M in
theorem impl_isSmall.ev (a b m : Int) : impl_isSmall.f a b m = some (isT a b && decide (a ≤ m)) := by
  unfold impl_isSmall.f
  rw [impl_IsTable.ev, Option.bind_some]
  cases isT a b <;> simp

/-! ### facts on impl_ones -/
--IMPORT M1
open Go.Proofs.Ytcelfhphmlhonaa.M in
theorem bits_OnesCount64.ev {w : Nat} (h : w < 2 ^ 32) : bits_OnesCount64.f w = some ((pc w : Nat) : Int) := by
  unfold bits_OnesCount64.f
  rw [sA_eq h, sB_eq (sA_lt h), sC_eq (sB_lt (sA_lt h))]
  exact congrArg some (swar_end h rfl _ rfl)
open Go.Proofs.Ytcelfhphmlhonaa.M in
theorem impl_ones.ev {w : Nat} (h : w < 2 ^ 32) : impl_ones.f w = some ((pc w : Nat) : Int) := by
  unfold impl_ones.f
  rw [u64n (by omega), bits_OnesCount64.ev h]; rfl

/-! ### facts on impl_Table_restrict -/
--IMPORT M0
open Go.Proofs.Ytcelfhphmlhonaa.M in
theorem impl_Table_restrict.ev {n v i b : Nat} (h1 : 1 ≤ n) (hn : n ≤ 5) (hv : v < 2 ^ 32) (hi : i < n) (hb : b ≤ 1) : impl_Table_restrict.f n v i b = some (((n - 1 : Nat) : Int), ((rstW n v i b : Nat) : Int)) := by
  unfold impl_Table_restrict.f
  rw [if_pos ⟨by omega, by omega, by omega, by omega, by omega, by omega, by omega, by omega⟩]
  simp only [Int.toNat_natCast]
  rw [show ((n : Int) - 1) = ((n - 1 : Nat) : Int) by omega]; rfl

/-! ### facts on impl_OnesInCubes -/
--IMPORT M12
open Go.Proofs.Ytcelfhphmlhonaa.M in
theorem impl_OnesInCubes.ev (a b k : Int) : impl_OnesInCubes.f a b k = some (spec_OnesInCubes.r a b k) := by
  unfold impl_OnesInCubes.f spec_OnesInCubes.r
  rw [impl_isSmall.ev, Option.bind_some]
  cases hok : spec_l24Fine.ok a b k with
  | true =>
    obtain ⟨n, v, kk, rfl, rfl, rfl, hn, hv, hk⟩ := spec_l24Fine.nat hok
    have hvi : (v : Int) < ((2 ^ 2 ^ n : Nat) : Int) := by exact_mod_cast hv
    rw [isT_mk (by omega) hv, decide_eq_true (show (n : Int) ≤ 4 by omega), if_pos ⟨rfl, by omega, by omega⟩, if_pos rfl]
    simp only [Int.toNat_natCast]
    rw [if_pos ⟨by omega, by omega, by omega, hvi⟩]
  | false =>
    have hno : ¬ ((isT a b && decide (a ≤ 4)) = true ∧ 0 ≤ k ∧ k ≤ a) := fun e => by
      unfold spec_l24Fine.ok at hok
      obtain ⟨e1, e2, e3⟩ := e
      rw [e1, decide_eq_true ⟨e2, e3⟩] at hok
      cases hok
    rw [if_neg hno, if_neg (by decide)]

/-! ### facts on laws_FnExactOnesInCubes -/
--IMPORT M12
open Go.Proofs.Ytcelfhphmlhonaa.M in
theorem laws_FnExactOnesInCubes.pure_ : laws_FnExactOnesInCubes.Pure := by
  intro a b k _ _ _
  have hs := spec_OnesInCubes.ev a b k
  have hi := impl_OnesInCubes.ev a b k
  have hr : (spec_OnesInCubes.r a b k).length ≤ 1048576 := by
    unfold spec_OnesInCubes.r
    split
    · rename_i h
      obtain ⟨n, v, kk, rfl, rfl, rfl, hn, hv, hk⟩ := spec_l24Fine.nat h
      have := pow16 (n := kk) (by omega)
      rw [impl_OnesInCubes.tally_len, Int.toNat_natCast]; omega
    · simp
  generalize spec_OnesInCubes.r a b k = r at hs hi hr
  obtain ⟨K5, h5⟩ : ∃ K, ∀ q, K ≤ q → spec_OnesInCubes.f q a b k = some r := hs
  obtain ⟨K7, h7⟩ : ∃ K, ∀ k, K ≤ k → laws_eqIntS.f k r r = some true := laws_eqIntS.ev r hr
  obtain ⟨K10, h10⟩ : ∃ K, ∀ k, K ≤ k → laws_markIntS.f k r 1 = some (1 + (r.length : Int), upTo 1 r.length) := laws_markIntS.ev r 1 hr (by decide) (by decide)
  obtain ⟨K11, h11⟩ : ∃ K, ∀ k, K ≤ k → laws_heldIntS.f k (upTo 1 r.length) 1 = some (1 + (r.length : Int)) := laws_heldIntS.ev r.length 1 hr (by decide) (by decide)
  have n4 : ¬ (1 + (r.length : Int) < 0) := by omega
  refine ⟨K5 + K7 + K10 + K11 + 3, ?_⟩
  simp (disch := omega) only [laws_FnExactOnesInCubes.f, laws_toTable.f, h5, hi, h7, h10, h11, n4, ↓reduceIte, Option.bind_some, bne_self_eq_false, Bool.false_eq_true]

end Go.Proofs.Ytcelfhphmlhonaa.Print
