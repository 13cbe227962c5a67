/- Functions of the given program as plain Lean functions, with proofs that their calls compute them, or lemmas on these. Laid by a program of this repo for the seat Ythkdjccjcpneiaa; Lean checks it. -/
import Derived.Test.YthkdjccjcpneiaaKExactDepthSum0
import Derived.Test.YthkdjccjcpneiaaKExactDepthSum1
import Derived.Test.YthkdjccjcpneiaaKExactDepthSum2
import Derived.Test.YthkdjccjcpneiaaKExactDepthSum5
import Derived.Test.YthkdjccjcpneiaaKExactDepthSum14
import Derived.Test.YthkdjccjcpneiaaKExactDepthSum15
import Derived.Test.YthkdjccjcpneiaaM0
import Derived.Test.YthkdjccjcpneiaaM12
import Derived.Test.YthkdjccjcpneiaaM1
import Derived.Test.YthkdjccjcpneiaaM18
import Derived.Test.YthkdjccjcpneiaaM5
namespace Go.Proofs.Ythkdjccjcpneiaa.Print
open Go.RowKit Go.Proofs.YthkdjccjcpneiaaW.PrintWords Go.Proofs.YthkdjccjcpneiaaW.PrintLast Go.Proofs.YthkdjccjcpneiaaW.PrintMore
attribute [local go_sem] max2_int min2_int max_two min_two max_three min_three max_four min_four   -- for this text's walks alone
set_option linter.unusedVariables false
set_option linter.unusedSimpArgs false

/-! ### facts on spec_l1In -/
theorem spec_l1In.ev (a b c : Int) : spec_l1In.f a b c = some (decide (b ≤ a ∧ a ≤ c)) := by
  unfold spec_l1In.f
  by_cases h : b ≤ a
  · rw [if_pos h]; simp [h]
  · rw [if_neg h]; simp [h]

/-! ### facts on spec_IsTable -/
--IMPORT M0
open Go.Proofs.Ythkdjccjcpneiaa.M in
theorem spec_IsTable.ev (a b : Int) : spec_IsTable.f a b = some (isT a b) := by
  unfold spec_IsTable.f isT
  rw [spec_l1In.ev]
  by_cases h : 0 ≤ a ∧ a ≤ 5
  · obtain ⟨n, rfl⟩ := nat_of h.1
    have hn : n ≤ 5 := by omega
    simp only [Option.bind_some, h, and_self, decide_true, if_true]
    rw [full_word hn, spec_l1In.ev]
    simp only [Option.bind_some, Int.toNat_natCast, h, true_and]
    congr 1
    apply decide_eq_decide.mpr
    omega
  · have h' : ¬ (0 ≤ a ∧ a ≤ 5 ∧ 0 ≤ b ∧ b < ((2 ^ 2 ^ a.toNat : Nat) : Int)) := fun e => h ⟨e.1, e.2.1⟩
    simp only [h, h', decide_false, Option.bind_some, Bool.false_eq_true, if_false]

/-! ### facts on spec_l24Fine -/
--IMPORT M12
/-- a table of at most four variables, and a number of them -/
def spec_l24Fine.ok (a b k : Int) : Bool := Go.Proofs.Ythkdjccjcpneiaa.M.isT a b && decide (a ≤ 4) && decide (0 ≤ k ∧ k ≤ a)
open Go.Proofs.Ythkdjccjcpneiaa.M in
theorem spec_l24Fine.ev (a b k : Int) : spec_l24Fine.f a b k = some (spec_l24Fine.ok a b k) := by
  unfold spec_l24Fine.f spec_l24Fine.ok
  rw [spec_IsTable.ev, Option.bind_some]
  cases isT a b with
  | false => rfl
  | true =>
    rw [if_pos rfl, Bool.true_and]
    by_cases h : a ≤ 4
    · rw [if_pos h, decide_eq_true h, spec_l1In.ev]; rfl
    · rw [if_neg h, decide_eq_false h]; rfl
open Go.Proofs.Ythkdjccjcpneiaa.M in
theorem spec_l24Fine.nat {a b k : Int} (h : spec_l24Fine.ok a b k = true) : ∃ n v kk : Nat, a = (n : Int) ∧ b = (v : Int) ∧ k = (kk : Int) ∧ n ≤ 4 ∧ v < 2 ^ 2 ^ n ∧ kk ≤ n := by
  unfold spec_l24Fine.ok at h
  rw [Bool.and_eq_true, Bool.and_eq_true] at h
  obtain ⟨n, v, rfl, rfl, hn, hv⟩ := isT_nat h.1.1
  have h1 := of_decide_eq_true h.1.2
  have h2 := of_decide_eq_true h.2
  exact ⟨n, v, k.toNat, rfl, rfl, by omega, by omega, hv, by omega⟩
open Go.Proofs.Ythkdjccjcpneiaa.M in
theorem spec_l24Fine.mk {n v kk : Nat} (hn : n ≤ 4) (hv : v < 2 ^ 2 ^ n) (hk : kk ≤ n) : spec_l24Fine.ok (n : Int) (v : Int) (kk : Int) = true := by
  unfold spec_l24Fine.ok
  rw [isT_mk (by omega) hv, decide_eq_true (show (n : Int) ≤ 4 by omega), decide_eq_true (show 0 ≤ (kk : Int) ∧ (kk : Int) ≤ (n : Int) by omega)]; rfl

/-! ### facts on spec_l2Count -/
--IMPORT M1
open Go.Proofs.Ythkdjccjcpneiaa.M in
theorem spec_l2Count.loop : ∀ (d w acc : Nat), w < 2 ^ d → d ≤ 62 → acc + d ≤ 1000 → Ev (fun k => spec_l2Count.l0 k acc w) ((acc + cnt w.testBit d : Nat) : Int)
  | 0, w, acc, hw, _, ha => by
    obtain rfl : w = 0 := by omega
    refine Ev.end (fun k => ?_)
    simp only [spec_l2Count.l0]
    rw [if_neg (by omega)]; rfl
  | d + 1, w, acc, hw, hd, ha => by
    by_cases h0 : w = 0
    · subst h0
      refine Ev.end (fun k => ?_)
      simp only [spec_l2Count.l0]
      rw [if_neg (by omega), cnt_zero]; rfl
    · have h := spec_l2Count.loop d (w / 2) (acc + w % 2) (by rw [Nat.pow_succ] at hw; omega) (by omega) (by omega)
      rw [show acc + w % 2 + cnt (w / 2).testBit d = acc + cnt w.testBit (d + 1) by rw [cnt_half]; omega] at h
      refine Ev.step (fun k => ?_) h
      have hp := p63 (n := d + 1) hd
      simp only [spec_l2Count.l0]
      rw [if_pos (by omega)]
      have e1 : Go.bits .and .i64 (w : Int) 1 = ((w % 2 : Nat) : Int) := by
        rw [← Nat.and_one_is_mod]; exact and_nat (b := 1) (by omega) (by decide)
      rw [e1, w64 (by omega) (by omega)]
      congr 1
open Go.Proofs.Ythkdjccjcpneiaa.M in
theorem spec_l2Count.ev {w : Nat} (h : w < 2 ^ 32) : Ev (fun k => spec_l2Count.f k w) ((pc w : Nat) : Int) := by
  have := spec_l2Count.loop 32 w 0 h (by omega) (by omega)
  rw [Nat.zero_add] at this
  exact this

/-! ### facts on spec_l3Cube -/
--IMPORT M12
open Go.Proofs.Ythkdjccjcpneiaa.M in
theorem spec_l3Cube.loop {n v m u : Nat} (hn : n ≤ 5) (hv : v < 2 ^ 2 ^ n) (hm : m < 2 ^ 32) : ∀ (d i : Nat) (c : Int), i + d = 2 ^ n → Ev (fun k => spec_l3Cube.l0 k (m : Int) (u : Int) c (i : Int) (n : Int) (v : Int)) (cubeGo c (((List.range' i d).filter (fun x => x &&& m == u)).map v.testBit))
  | 0, i, c, h => by
    have h5 := pow_le_5 hn
    refine Ev.end (fun k => ?_)
    simp only [spec_l3Cube.l0]
    rw [if_pos (Int.natCast_nonneg n), shl_one (by omega), if_neg (by omega)]; rfl
  | d + 1, i, c, h => by
    have h5 := pow_le_5 hn
    have hf := full_p63 hn
    have ih := fun c => spec_l3Cube.loop (u := u) hn hv hm d (i + 1) c (by omega)
    have e1 : wrap64 ((i : Int) + 1) = ((i + 1 : Nat) : Int) := up1 (by omega)
    have ea : Go.bits .and .i64 (i : Int) (m : Int) = ((i &&& m : Nat) : Int) := and_nat (by omega) (by omega)
    have eb := bit_nat (a := v) (n := i) (by omega) (by omega)
    rw [List.range'_succ]
    by_cases hq : i &&& m = u
    · have hf2 : ((i :: List.range' (i + 1) d).filter (fun x => x &&& m == u)) = i :: ((List.range' (i + 1) d).filter (fun x => x &&& m == u)) := by
        rw [List.filter_cons, if_pos (beq_iff_eq.mpr hq)]
      rw [hf2, List.map_cons, cubeGo]
      by_cases hc : c ≥ 0
      · rw [if_pos hc]
        by_cases hcb : c = (((v.testBit i).toNat : Nat) : Int)
        · rw [if_pos hcb]
          refine Ev.step (fun k => ?_) (ih _)
          simp only [spec_l3Cube.l0]
          rw [if_pos (Int.natCast_nonneg n), shl_one (by omega), if_pos (by omega), ea, if_pos (by omega), if_pos (by omega), if_pos hc, eb, if_pos hcb, e1]
        · rw [if_neg hcb]
          refine Ev.end (fun k => ?_)
          simp only [spec_l3Cube.l0]
          rw [if_pos (Int.natCast_nonneg n), shl_one (by omega), if_pos (by omega), ea, if_pos (by omega), if_pos (by omega), if_pos hc, eb, if_neg hcb]
      · rw [if_neg hc]
        refine Ev.step (fun k => ?_) (ih _)
        simp only [spec_l3Cube.l0]
        rw [if_pos (Int.natCast_nonneg n), shl_one (by omega), if_pos (by omega), ea, if_pos (by omega), if_pos (by omega), if_neg hc, eb, e1]
    · have hf2 : ((i :: List.range' (i + 1) d).filter (fun x => x &&& m == u)) = ((List.range' (i + 1) d).filter (fun x => x &&& m == u)) := by
        rw [List.filter_cons, if_neg (fun e => hq (beq_iff_eq.mp e))]
      rw [hf2]
      refine Ev.step (fun k => ?_) (ih c)
      simp only [spec_l3Cube.l0]
      rw [if_pos (Int.natCast_nonneg n), shl_one (by omega), if_pos (by omega), ea, if_neg (by omega), e1]
open Go.Proofs.Ythkdjccjcpneiaa.M in
theorem spec_l3Cube.ev {n v m u : Nat} (hn : n ≤ 5) (hv : v < 2 ^ 2 ^ n) (hm : m < 2 ^ 32) : Ev (fun k => spec_l3Cube.f k (n : Int) (v : Int) (m : Int) (u : Int)) (cubeGo (-1) (((List.range (2 ^ n)).filter (fun x => x &&& m == u)).map v.testBit)) := by
  rw [List.range_eq_range']
  exact spec_l3Cube.loop hn hv hm (2 ^ n) 0 (-1) (by omega)

/-! ### facts on spec_l7Least -/
--IMPORT M18
open Go.Proofs.Ythkdjccjcpneiaa.M in
theorem spec_l7Least.mnx (b R0 R1 : Nat) (h0 : R0 ≤ 100) (h1 : R1 ≤ 100) : mn (b : Int) (wrap64 (1 + (mx (R0 : Int) (R1 : Int)))) = ((min b (1 + max R0 R1) : Nat) : Int) := by
  have e : mx (R0 : Int) (R1 : Int) = ((max R0 R1 : Nat) : Int) := by unfold mx; split <;> omega
  rw [e, w64 (by omega) (by omega)]
  unfold mn
  split <;> omega
open Go.Proofs.Ythkdjccjcpneiaa.M in
theorem spec_l7Least.hasBit {m i : Nat} (hm : m < 2 ^ 63) (hi : i ≤ 62) : Go.bits .and .i64 (m : Int) (shl .i64 1 (i : Int)) = (((m.testBit i).toNat * 2 ^ i : Nat) : Int) := by
  have e : m &&& 2 ^ i = (m.testBit i).toNat * 2 ^ i := by
    apply Nat.eq_of_testBit_eq; intro j
    rw [Nat.testBit_and, Nat.testBit_two_pow]
    by_cases h : i = j
    · subst h; cases m.testBit i <;> simp
    · cases m.testBit i <;> simp [h, Nat.testBit_two_pow]
  rw [shl_one hi, and_nat hm (p63 hi), e]
open Go.Proofs.Ythkdjccjcpneiaa.M in
theorem spec_l7Least.ev {n v : Nat} (hn : n ≤ 4) (hv : v < 2 ^ 2 ^ n) : ∀ d m u, Cb n m u → pc m + d = n → Ev (fun k => spec_l7Least.f k (n : Int) (v : Int) (m : Int) (u : Int)) ((ldC 10 n v d m u : Nat) : Int) := by
  have h16 := pow16 hn
  intro d
  induction d with
  | zero =>
    intro m u hc hp
    have hm := hc.hm
    have hcon := hc.con (v := v) (by omega)
    have h3 := spec_l3Cube.ev (n := n) (v := v) (m := m) (u := u) (by omega) hv (by omega)
    refine Ev.step (f := fun k => (spec_l3Cube.f k (n : Int) (v : Int) (m : Int) (u : Int)).bind fun t => if t < 2 then some 0 else spec_l7Least.l0 k (m : Int) (u : Int) 10 0 (n : Int) (v : Int)) (fun k => rfl) (Ev.bind h3 (Ev.congr (fun k => if_pos (of_decide_eq_true hcon)) (Ev.now _)))
  | succ d ih =>
    intro m u hc hp
    have hm := hc.hm
    have hu := hc.hu
    have h3 := spec_l3Cube.ev (n := n) (v := v) (m := m) (u := u) (by omega) hv (by omega)
    refine Ev.step (f := fun k => (spec_l3Cube.f k (n : Int) (v : Int) (m : Int) (u : Int)).bind fun t => if t < 2 then some 0 else spec_l7Least.l0 k (m : Int) (u : Int) 10 0 (n : Int) (v : Int)) (fun k => rfl) (Ev.bind h3 ?_)
    by_cases hcon : conL v (inX n m u) = true
    · have e : ldC 10 n v (d + 1) m u = 0 := by rw [ldC, if_pos hcon]
      rw [e]
      exact Ev.congr (fun k => if_pos (of_decide_eq_true hcon)) (Ev.now _)
    · have e : ldC 10 n v (d + 1) m u = bestOf (fun i => max (ldC 10 n v d (m ||| 2 ^ i) u) (ldC 10 n v d (m ||| 2 ^ i) (u ||| 2 ^ i))) 10 (frL n m) := by rw [ldC, if_neg hcon]
      rw [e]
      refine Ev.congr (fun k => if_neg (fun h => hcon (decide_eq_true h))) ?_
      exact Ev.count (fun q i => spec_l7Least.l0 q (m : Int) (u : Int) ((bestOf (fun i => max (ldC 10 n v d (m ||| 2 ^ i) u) (ldC 10 n v d (m ||| 2 ^ i) (u ||| 2 ^ i))) 10 (frL i m) : Nat) : Int) (i : Int) (n : Int) (v : Int)) n _ (fun i hi hnext => by
        cases hb : m.testBit i with
        | true =>
          rw [frL_succ_held hb] at hnext
          refine Ev.step (fun q => ?_) hnext
          have hp2 := Nat.two_pow_pos i
          simp only [spec_l7Least.l0]
          rw [if_pos (show (i : Int) < (n : Int) by omega), if_pos (Int.natCast_nonneg i), spec_l7Least.hasBit (by omega) (by omega), hb, if_neg (by rw [show true.toNat * 2 ^ i = 2 ^ i from Nat.one_mul _]; omega), up1 (by omega)]
        | false =>
          have hmem : i ∈ frL n m := by unfold frL; exact List.mem_filter.mpr ⟨List.mem_range.mpr hi, by rw [hb]; rfl⟩
          obtain ⟨q0, q1, q2⟩ := hc.step hmem
          have l0 := ldC_le (b := 10) (v := v) (by omega) q0 (d := d) (by omega)
          have l1 := ldC_le (b := 10) (v := v) (by omega) q1 (d := d) (by omega)
          rw [frL_succ_free hb, bestOf_snoc] at hnext
          refine Ev.step (f := fun q => (spec_l7Least.f q (n : Int) (v : Int) ((m ||| 2 ^ i : Nat) : Int) (u : Int)).bind fun t113 => (spec_l7Least.f q (n : Int) (v : Int) ((m ||| 2 ^ i : Nat) : Int) ((u ||| 2 ^ i : Nat) : Int)).bind fun t114 => spec_l7Least.l0 q (m : Int) (u : Int) (mn ((bestOf (fun i => max (ldC 10 n v d (m ||| 2 ^ i) u) (ldC 10 n v d (m ||| 2 ^ i) (u ||| 2 ^ i))) 10 (frL i m) : Nat) : Int) (wrap64 (1 + (mx t113 t114)))) ((i + 1 : Nat) : Int) (n : Int) (v : Int)) (fun q => ?_) (Ev.bind (ih _ _ q0 (by omega)) (Ev.bind (ih _ _ q1 (by omega)) ?_))
          · have hp2 := p63 (n := i) (by omega)
            simp only [spec_l7Least.l0]
            rw [if_pos (show (i : Int) < (n : Int) by omega), if_pos (Int.natCast_nonneg i), spec_l7Least.hasBit (by omega) (by omega), hb, if_pos (by simp), up1 (by omega), shl_one (by omega), or_nat (by omega) hp2, or_nat (by omega) hp2]
          · rw [spec_l7Least.mnx _ _ _ (by omega) (by omega)]
            exact hnext) (Ev.end (fun q => by
        simp only [spec_l7Least.l0]
        rw [if_neg (by omega)])) n 0 (by omega)

/-! ### facts on spec_DepthSum -/
--IMPORT M18
open Go.Proofs.Ythkdjccjcpneiaa.M in
/-- the least depth of a word -/
def spec_DepthSum.H (k x : Nat) : Int := ((ldC k k x k 0 0 : Nat) : Int)
open Go.Proofs.Ythkdjccjcpneiaa.M in
def spec_DepthSum.S (k : Nat) (l : List Nat) : Int := l.foldl (fun s x => wrap64 (s + spec_DepthSum.H k x)) 0
open Go.Proofs.Ythkdjccjcpneiaa.M in
theorem spec_DepthSum.S_snoc (k : Nat) (l : List Nat) (x : Nat) : spec_DepthSum.S k (l ++ [x]) = wrap64 (spec_DepthSum.S k l + spec_DepthSum.H k x) := by
  unfold spec_DepthSum.S
  rw [List.foldl_append]; rfl
open Go.Proofs.Ythkdjccjcpneiaa.M in
/-- the answer -/
def spec_DepthSum.r (a b k : Int) : Int := if spec_l24Fine.ok a b k = true then spec_DepthSum.S k.toNat (cutAll a.toNat b.toNat k.toNat (2 ^ a.toNat)) else -1
open Go.Proofs.Ythkdjccjcpneiaa.M in
theorem spec_DepthSum.ev (a b k : Int) : Ev (fun q => spec_DepthSum.f q a b k) (spec_DepthSum.r a b k) := by
  unfold spec_DepthSum.r
  refine Ev.congr (f := fun q => if spec_l24Fine.ok a b k = true then spec_DepthSum.l0 q k 0 0 a b else some (-1)) (fun q => by unfold spec_DepthSum.f; rw [spec_l24Fine.ev]; rfl) ?_
  cases hok : spec_l24Fine.ok a b k with
  | false => exact Ev.now _
  | true =>
    obtain ⟨n, v, kk, rfl, rfl, rfl, hn, hv, hk⟩ := spec_l24Fine.nat hok
    simp only [if_true, Int.toNat_natCast]
    have h16 := pow16 hn
    have HV := Aside0.mk hv
    clear hv
    generalize hR : spec_DepthSum.S kk (cutAll n v kk (2 ^ n)) = R
    have row : ∀ m, m < 2 ^ n → Ev (fun q => spec_DepthSum.l0 q (kk : Int) (spec_DepthSum.S kk (cutAll n v kk (m + 1))) ((m + 1 : Nat) : Int) n v) R → Ev (fun q => spec_DepthSum.l0 q (kk : Int) (spec_DepthSum.S kk (cutAll n v kk m)) (m : Int) n v) R := by
      intro m hm hnext
      have hpn : pc m ≤ n := by have := left_all n (by omega) m (by omega) hm; omega
      have hcount := spec_l2Count.ev (w := m) (by omega)
      have ew : wrap64 ((n : Int) - ((pc m : Nat) : Int)) = (n : Int) - ((pc m : Nat) : Int) := w64 (by omega) (by omega)
      by_cases hpk : pc m + kk = n
      · rw [cutAll, if_pos hpk, cutRow_full hm] at hnext
        have inner := Ev.count (fun q u => spec_DepthSum.l1 q (kk : Int) (spec_DepthSum.S kk (cutAll n v kk m ++ cutRow n v m u)) (m : Int) (u : Int) n v) (m + 1) R (fun u hu hn' => by
          have ea : Go.bits .and .i64 (u : Int) (m : Int) = ((u &&& m : Nat) : Int) := and_nat (by omega) (by omega)
          by_cases hz : andn u m = 0
          · have hum : u &&& m = u := subset_iff.mpr hz
            have hcb : Cb n m u := ⟨hn, hm, by omega, hz⟩
            have hw := ldC_whole (b := kk) (c := 10) (Nat.le_refl kk) (by omega) hcb HV.out hpk
            have hs := spec_l7Least.ev hn HV.out kk m u hcb hpk
            rw [cutRow, if_pos hz, ← List.append_assoc, spec_DepthSum.S_snoc] at hn'
            unfold spec_DepthSum.H at hn'
            rw [hw] at hn'
            generalize spec_DepthSum.S kk (cutAll n v kk m ++ cutRow n v m u) = s at hn' ⊢
            refine Ev.step (f := fun q => (spec_l2Count.f q (m : Int)).bind fun t => if (wrap64 ((n : Int) - t)) = (kk : Int) then (spec_l7Least.f q n v m u).bind fun y => spec_DepthSum.l1 q (kk : Int) (wrap64 (s + y)) (m : Int) ((u + 1 : Nat) : Int) n v else spec_DepthSum.l1 q (kk : Int) s (m : Int) ((u + 1 : Nat) : Int) n v) (fun q => ?_) (Ev.bind hcount (Ev.congr (fun q => if_pos (by rw [ew]; omega)) (Ev.bind hs hn')))
            simp only [spec_DepthSum.l1]
            rw [if_pos (by omega), ea, hum, if_pos rfl, up1 (by omega)]
          · rw [cutRow, if_neg hz] at hn'
            have hum : ¬ u &&& m = u := fun e => hz (subset_iff.mp e)
            generalize spec_DepthSum.S kk (cutAll n v kk m ++ cutRow n v m u) = s at hn' ⊢
            refine Ev.step (f := fun q => (spec_l2Count.f q (m : Int)).bind fun t => spec_DepthSum.l1 q (kk : Int) s (m : Int) ((u + 1 : Nat) : Int) n v) (fun q => ?_) (Ev.bind hcount hn')
            simp only [spec_DepthSum.l1]
            rw [if_pos (by omega), ea, if_neg (by omega), up1 (by omega)]
            simp only [ite_self]) (Ev.step (fun q => by
          simp only [spec_DepthSum.l1]
          rw [if_neg (by omega), up1 (by omega)]) hnext) (m + 1) 0 (by omega)
        refine Ev.step (fun q => ?_) inner
        simp only [spec_DepthSum.l0]
        rw [if_pos (Int.natCast_nonneg n), shl_one (by omega), if_pos (by omega), show cutRow n v m 0 = [] from rfl, List.append_nil]; rfl
      · rw [cutAll, if_neg hpk] at hnext
        generalize spec_DepthSum.S kk (cutAll n v kk m) = s at hnext ⊢
        have inner := Ev.count (fun q u => spec_DepthSum.l1 q (kk : Int) s (m : Int) (u : Int) n v) (m + 1) R (fun u hu hn' => by
          refine Ev.step (f := fun q => (spec_l2Count.f q (m : Int)).bind fun t => if (wrap64 ((n : Int) - t)) = (kk : Int) then (if (Go.bits .and .i64 (u : Int) (m : Int)) = (u : Int) then ((spec_l7Least.f q n v m u).bind fun t201 => (spec_DepthSum.l1 q (kk : Int) (wrap64 (s + t201)) m (wrap64 ((u : Int) + 1)) n v)) else (spec_DepthSum.l1 q (kk : Int) s m (wrap64 ((u : Int) + 1)) n v)) else spec_DepthSum.l1 q (kk : Int) s (m : Int) ((u + 1 : Nat) : Int) n v) (fun q => ?_) (Ev.bind hcount (Ev.congr (fun q => if_neg (by rw [ew]; omega)) hn'))
          simp only [spec_DepthSum.l1]
          rw [if_pos (by omega), up1 (x := u) (by omega)]) (Ev.step (fun q => by
          simp only [spec_DepthSum.l1]
          rw [if_neg (by omega), up1 (by omega)]) hnext) (m + 1) 0 (by omega)
        refine Ev.step (fun q => ?_) inner
        simp only [spec_DepthSum.l0]
        rw [if_pos (Int.natCast_nonneg n), shl_one (by omega), if_pos (by omega)]; rfl
    exact Ev.count (fun q m => spec_DepthSum.l0 q (kk : Int) (spec_DepthSum.S kk (cutAll n v kk m)) (m : Int) n v) (2 ^ n) R row (Ev.end (fun q => by
      simp only [spec_DepthSum.l0]
      rw [if_pos (Int.natCast_nonneg n), shl_one (by omega), if_neg (by omega), hR])) (2 ^ n) 0 (by omega)

/-! ### facts on impl_isBits -/
theorem impl_isBits.ev (a : Int) : impl_isBits.f a = some (decide (0 ≤ a ∧ a ≤ 5)) := by
  unfold impl_isBits.f
  by_cases h : 0 ≤ a
  · rw [if_pos h]; simp [h]
  · rw [if_neg h]; simp [h]

/-! ### facts on impl_IsTable -/
--IMPORT M0
open Go.Proofs.Ythkdjccjcpneiaa.M in
theorem impl_IsTable.ev (a b : Int) : impl_IsTable.f a b = some (isT a b) := by
  unfold impl_IsTable.f isT
  rw [impl_isBits.ev]
  by_cases h : 0 ≤ a ∧ a ≤ 5
  · obtain ⟨n, rfl⟩ := nat_of h.1
    have hn : n ≤ 5 := by omega
    simp only [Option.bind_some, h, and_self, decide_true, if_true]
    by_cases hb : b ≥ 0
    · obtain ⟨v, rfl⟩ := nat_of hb
      have h5 := pow_le_5 hn
      rw [if_pos hb]
      unfold impl_Table_size.f
      rw [if_pos (Int.natCast_nonneg n), shl_one (by omega)]
      simp only [Option.bind_some]
      rw [if_pos (Int.natCast_nonneg _), shr_nat (by omega)]
      congr 1
      rw [Bool.eq_iff_iff]
      simp only [beq_iff_eq, decide_eq_true_eq, Int.toNat_natCast]
      have hz : v / 2 ^ 2 ^ n = 0 ↔ v < 2 ^ 2 ^ n := Nat.div_eq_zero_iff_lt (Nat.two_pow_pos _)
      rw [show (((v / 2 ^ 2 ^ n : Nat) : Int) = 0 ↔ v / 2 ^ 2 ^ n = 0) from by omega, hz]
      obtain ⟨P, hP⟩ : ∃ P, P = 2 ^ 2 ^ n := ⟨_, rfl⟩
      rw [← hP]
      simp only [h, true_and]
      omega
    · rw [if_neg hb]
      congr 1
      symm
      apply decide_eq_false
      omega
  · have h' : ¬ (0 ≤ a ∧ a ≤ 5 ∧ 0 ≤ b ∧ b < ((2 ^ 2 ^ a.toNat : Nat) : Int)) := fun e => h ⟨e.1, e.2.1⟩
    simp only [h, h', decide_false, Option.bind_some, Bool.false_eq_true, if_false]

/-! ### facts on impl_isSmall -/
--IMPORT M5
open Go.Proofs.Ythkdjccjcpneiaa.M in
theorem impl_isSmall.ev (a b m : Int) : impl_isSmall.f a b m = some (isT a b && decide (a ≤ m)) := by
  unfold impl_isSmall.f
  rw [impl_IsTable.ev, Option.bind_some]
  cases isT a b <;> simp

/-! ### facts on impl_ones -/
--IMPORT M1
open Go.Proofs.Ythkdjccjcpneiaa.M in
theorem bits_OnesCount64.ev {w : Nat} (h : w < 2 ^ 32) : bits_OnesCount64.f w = some ((pc w : Nat) : Int) := by
  unfold bits_OnesCount64.f
  rw [sA_eq h, sB_eq (sA_lt h), sC_eq (sB_lt (sA_lt h))]
  exact congrArg some (swar_end h rfl _ rfl)
open Go.Proofs.Ythkdjccjcpneiaa.M in
theorem impl_ones.ev {w : Nat} (h : w < 2 ^ 32) : impl_ones.f w = some ((pc w : Nat) : Int) := by
  unfold impl_ones.f
  rw [u64n (by omega), bits_OnesCount64.ev h]; rfl

/-! ### facts on impl_Table_restrict -/
--IMPORT M0
open Go.Proofs.Ythkdjccjcpneiaa.M in
theorem impl_Table_restrict.ev {n v i b : Nat} (h1 : 1 ≤ n) (hn : n ≤ 5) (hv : v < 2 ^ 32) (hi : i < n) (hb : b ≤ 1) : impl_Table_restrict.f n v i b = some (((n - 1 : Nat) : Int), ((rstW n v i b : Nat) : Int)) := by
  unfold impl_Table_restrict.f
  rw [if_pos ⟨by omega, by omega, by omega, by omega, by omega, by omega, by omega, by omega⟩]
  simp only [Int.toNat_natCast]
  rw [show ((n : Int) - 1) = ((n - 1 : Nat) : Int) by omega]; rfl

/-! ### facts on impl_DepthSum -/
--IMPORT M18
open Go.Proofs.Ythkdjccjcpneiaa.M in
theorem impl_DepthSum.ev (a b k : Int) : impl_DepthSum.f a b k = some (spec_DepthSum.r a b k) := by
  unfold spec_DepthSum.r
  cases hok : spec_l24Fine.ok a b k with
  | true =>
    obtain ⟨n, v, kk, rfl, rfl, rfl, hn, hv, hk⟩ := spec_l24Fine.nat hok
    have hvi : (v : Int) < ((2 ^ 2 ^ n : Nat) : Int) := by exact_mod_cast hv
    have hT := isT_mk (n := n) (v := v) (by omega) hv
    unfold impl_DepthSum.f
    rw [impl_isSmall.ev, Option.bind_some, hT, decide_eq_true (show (n : Int) ≤ 4 by omega), if_pos ⟨rfl, by omega, by omega⟩, if_pos rfl]
    simp only [Int.toNat_natCast]
    rw [if_pos ⟨⟨by omega, by omega, by omega, hvi⟩, fun x hx => by rw [impl_isSmall.ev, isT_mk (by omega) hx, decide_eq_true (show (kk : Int) ≤ 4 by omega)]; rfl⟩]
    rfl
  | false =>
    have hno : ¬ ((isT a b && decide (a ≤ 4)) = true ∧ 0 ≤ k ∧ k ≤ a) := fun e => by
      unfold spec_l24Fine.ok at hok
      obtain ⟨e1, e2, e3⟩ := e
      rw [e1, decide_eq_true ⟨e2, e3⟩] at hok
      cases hok
    unfold impl_DepthSum.f
    rw [impl_isSmall.ev, Option.bind_some, if_neg hno, if_neg (by decide)]

/-! ### facts on laws_FnExactDepthSum -/
--IMPORT M18
open Go.Proofs.Ythkdjccjcpneiaa.M in
theorem laws_FnExactDepthSum.pure_ : laws_FnExactDepthSum.Pure := by
  intro a b k _ _ _
  have hs := spec_DepthSum.ev a b k
  have hi := impl_DepthSum.ev a b k
  generalize spec_DepthSum.r a b k = r at hs hi
  obtain ⟨K5, h5⟩ : ∃ K, ∀ q, K ≤ q → spec_DepthSum.f q a b k = some r := hs
  refine ⟨K5 + 3, ?_⟩
  simp (disch := omega) only [laws_FnExactDepthSum.f, laws_toTable.f, h5, hi, ↓reduceIte, Option.bind_some, bne_self_eq_false, Bool.false_eq_true]

end Go.Proofs.Ythkdjccjcpneiaa.Print
