/- Functions of the given program as plain Lean functions, with proofs that their calls compute them, or lemmas on these. Laid by a program of this repo for the seat Ytcjlfdpfckicjaa; Lean checks it. -/
import Derived.Test.YtcjlfdpfckicjaaKExactBestPair0
import Derived.Test.YtcjlfdpfckicjaaKExactBestPair1
import Derived.Test.YtcjlfdpfckicjaaKExactBestPair2
import Derived.Test.YtcjlfdpfckicjaaM0
import Derived.Test.YtcjlfdpfckicjaaM1
import Derived.Test.YtcjlfdpfckicjaaM2
namespace Go.Proofs.Ytcjlfdpfckicjaa.Print
open Go.RowKit Go.Proofs.YtcjlfdpfckicjaaW.PrintWords Go.Proofs.YtcjlfdpfckicjaaW.PrintLast Go.Proofs.YtcjlfdpfckicjaaW.PrintMore
attribute [local go_sem] max2_int min2_int max_two min_two max_three min_three max_four min_four   -- for this text's walks alone
set_option linter.unusedVariables false
set_option linter.unusedSimpArgs false

/-! ### facts on spec_l1In -/
theorem spec_l1In.ev (a b c : Int) : spec_l1In.f a b c = some (decide (b ≤ a ∧ a ≤ c)) := by
  unfold spec_l1In.f
  by_cases h : b ≤ a
  · rw [if_pos h]; simp [h]
  · rw [if_neg h]; simp [h]

/-! ### facts on spec_IsTable -/
--IMPORT M0
open Go.Proofs.Ytcjlfdpfckicjaa.M in
theorem spec_IsTable.ev (a b : Int) : spec_IsTable.f a b = some (isT a b) := by
  unfold spec_IsTable.f isT
  rw [spec_l1In.ev]
  by_cases h : 0 ≤ a ∧ a ≤ 5
  · obtain ⟨n, rfl⟩ := nat_of h.1
    have hn : n ≤ 5 := by omega
    simp only [Option.bind_some, h, and_self, decide_true, if_true]
    rw [full_word hn, spec_l1In.ev]
    simp only [Option.bind_some, Int.toNat_natCast, h, true_and]
    congr 1
    apply decide_eq_decide.mpr
    omega
  · have h' : ¬ (0 ≤ a ∧ a ≤ 5 ∧ 0 ≤ b ∧ b < ((2 ^ 2 ^ a.toNat : Nat) : Int)) := fun e => h ⟨e.1, e.2.1⟩
    simp only [h, h', decide_false, Option.bind_some, Bool.false_eq_true, if_false]

/-! ### facts on spec_l2Full -/
--IMPORT M0
open Go.Proofs.Ytcjlfdpfckicjaa.M in
theorem spec_l2Full.ev {n : Nat} (h : n ≤ 5) : spec_l2Full.f n = some (((2 ^ 2 ^ n : Nat) : Int) - 1) := by
  unfold spec_l2Full.f
  rw [if_pos (Int.natCast_nonneg n), full_word h]

/-! ### facts on spec_l23Fine -/
--IMPORT M0
open Go.Proofs.Ytcjlfdpfckicjaa.M in
/-- two sets of inputs of at most four variables -/
def spec_l23Fine.is (n a b : Int) : Bool := decide (0 ≤ n ∧ n ≤ 4 ∧ 0 ≤ a ∧ a < ((2 ^ 2 ^ n.toNat : Nat) : Int) ∧ 0 ≤ b ∧ b < ((2 ^ 2 ^ n.toNat : Nat) : Int))
open Go.Proofs.Ytcjlfdpfckicjaa.M in
theorem spec_l23Fine.nat {n a b : Int} (h : spec_l23Fine.is n a b = true) : ∃ m x y : Nat, n = (m : Int) ∧ a = (x : Int) ∧ b = (y : Int) ∧ m ≤ 4 ∧ x < 2 ^ 2 ^ m ∧ y < 2 ^ 2 ^ m := by
  obtain ⟨h1, h2, h3, h4, h5, h6⟩ := of_decide_eq_true h
  obtain ⟨m, rfl⟩ := nat_of h1
  obtain ⟨x, rfl⟩ := nat_of h3
  obtain ⟨y, rfl⟩ := nat_of h5
  rw [Int.toNat_natCast] at h4 h6
  exact ⟨m, x, y, rfl, rfl, rfl, by omega, by exact_mod_cast h4, by exact_mod_cast h6⟩
open Go.Proofs.Ytcjlfdpfckicjaa.M in
theorem spec_l23Fine.ev (n a b : Int) : spec_l23Fine.f n a b = some (spec_l23Fine.is n a b) := by
  unfold spec_l23Fine.f spec_l23Fine.is
  rw [spec_l1In.ev]
  by_cases h : 0 ≤ n ∧ n ≤ 4
  · obtain ⟨m, rfl⟩ := nat_of h.1
    have hm : m ≤ 5 := by omega
    rw [decide_eq_true h]
    simp only [Option.bind_some, if_true, spec_l2Full.ev hm, spec_l1In.ev, Int.toNat_natCast]
    have P1 : ∀ z : Int, z ≤ ((2 ^ 2 ^ m : Nat) : Int) - 1 ↔ z < ((2 ^ 2 ^ m : Nat) : Int) := fun z => by omega
    by_cases ha : 0 ≤ a ∧ a ≤ ((2 ^ 2 ^ m : Nat) : Int) - 1
    · rw [decide_eq_true ha, if_pos rfl]
      congr 1
      apply decide_eq_decide.mpr
      exact ⟨fun e => ⟨h.1, h.2, ha.1, (P1 _).mp ha.2, e.1, (P1 _).mp e.2⟩, fun e => ⟨e.2.2.2.2.1, (P1 _).mpr e.2.2.2.2.2⟩⟩
    · rw [decide_eq_false ha, if_neg (by decide)]
      congr 1; symm
      exact decide_eq_false (fun e => ha ⟨e.2.2.1, (P1 _).mpr e.2.2.2.1⟩)
  · have h' : ¬ (0 ≤ n ∧ n ≤ 4 ∧ 0 ≤ a ∧ a < ((2 ^ 2 ^ n.toNat : Nat) : Int) ∧ 0 ≤ b ∧ b < ((2 ^ 2 ^ n.toNat : Nat) : Int)) := fun e => h ⟨e.1, e.2.1⟩
    simp only [h, h', decide_false, Option.bind_some, Bool.false_eq_true, if_false]

/-! ### facts on spec_l2Count -/
--IMPORT M1
open Go.Proofs.Ytcjlfdpfckicjaa.M in
theorem spec_l2Count.loop : ∀ (d w acc : Nat), w < 2 ^ d → d ≤ 62 → acc + d ≤ 1000 → Ev (fun k => spec_l2Count.l0 k acc w) ((acc + cnt w.testBit d : Nat) : Int)
  | 0, w, acc, hw, _, ha => by
    obtain rfl : w = 0 := by omega
    refine Ev.end (fun k => ?_)
    simp only [spec_l2Count.l0]
    rw [if_neg (by omega)]; rfl
  | d + 1, w, acc, hw, hd, ha => by
    by_cases h0 : w = 0
    · subst h0
      refine Ev.end (fun k => ?_)
      simp only [spec_l2Count.l0]
      rw [if_neg (by omega), cnt_zero]; rfl
    · have h := spec_l2Count.loop d (w / 2) (acc + w % 2) (by rw [Nat.pow_succ] at hw; omega) (by omega) (by omega)
      rw [show acc + w % 2 + cnt (w / 2).testBit d = acc + cnt w.testBit (d + 1) by rw [cnt_half]; omega] at h
      refine Ev.step (fun k => ?_) h
      have hp := p63 (n := d + 1) hd
      simp only [spec_l2Count.l0]
      rw [if_pos (by omega)]
      have e1 : Go.bits .and .i64 (w : Int) 1 = ((w % 2 : Nat) : Int) := by
        rw [← Nat.and_one_is_mod]; exact and_nat (b := 1) (by omega) (by decide)
      rw [e1, w64 (by omega) (by omega)]
      congr 1
open Go.Proofs.Ytcjlfdpfckicjaa.M in
theorem spec_l2Count.ev {w : Nat} (h : w < 2 ^ 32) : Ev (fun k => spec_l2Count.f k w) ((pc w : Nat) : Int) := by
  have := spec_l2Count.loop 32 w 0 h (by omega) (by omega)
  rw [Nat.zero_add] at this
  exact this

/-! ### facts on spec_l23Edges -/
--IMPORT M2
open Go.Proofs.Ytcjlfdpfckicjaa.M in
theorem spec_l23Edges.inner {n a b : Nat} (hn : n ≤ 5) (ha : a < 2 ^ 63) (hb : b < 2 ^ 63) {x : Nat} (hx : x < 2 ^ n) {S : Nat} (hS : S ≤ 1000) {r : Int}
    (he : Ev (fun k => spec_l23Edges.l0 k n a b ((S + edgesAt n a b x : Nat) : Int) ((x + 1 : Nat) : Int)) r) :
    ∀ d i, i + d = n → Ev (fun k => spec_l23Edges.l1 k n a b ((S + sumN (edgeB a b x) i : Nat) : Int) (x : Int) (i : Int)) r := by
  have h5 := pow_le_5 hn
  refine Ev.count (fun k i => spec_l23Edges.l1 k n a b ((S + sumN (edgeB a b x) i : Nat) : Int) (x : Int) (i : Int)) n r ?_ ?_
  · intro i hi h
    refine Ev.step (fun k => ?_) h
    have hle := sumN_le (edgeB_le a b x) i
    have hf := flip_lt (lt_pow5 hx hn) (show i < 5 by omega)
    simp only [spec_l23Edges.l1]
    rw [if_pos (by omega), if_pos (by omega), bit_nat ha (by omega)]
    have eb : edgeB a b x i = (a.testBit x && b.testBit (x ^^^ 2 ^ i)).toNat := rfl
    show _ = spec_l23Edges.l1 k n a b ((S + (sumN (edgeB a b x) i + edgeB a b x i) : Nat) : Int) (x : Int) ((i + 1 : Nat) : Int)
    rw [eb]
    cases a.testBit x
    · rw [if_neg (by decide), up1 (by omega)]; rfl
    · rw [if_pos (by rfl), if_pos (by omega), flip_int (lt_pow5 hx hn) (by omega), if_pos (Int.natCast_nonneg _), bit_nat hb (by omega)]
      cases b.testBit (x ^^^ 2 ^ i)
      · rw [if_neg (by decide), up1 (by omega)]; rfl
      · rw [if_pos (by rfl), up1 (by omega), up1 (by omega)]; rfl
  · refine Ev.step (fun k => ?_) he
    simp only [spec_l23Edges.l1]
    rw [if_neg (by omega), up1 (by omega)]; rfl
open Go.Proofs.Ytcjlfdpfckicjaa.M in
theorem spec_l23Edges.ev {n a b : Nat} (hn : n ≤ 5) (ha : a < 2 ^ 63) (hb : b < 2 ^ 63) : Ev (fun k => spec_l23Edges.f k n a b) ((edgesN n a b : Nat) : Int) := by
  have h5 := pow_le_5 hn
  have key : ∀ d x, x + d = 2 ^ n → Ev (fun k => spec_l23Edges.l0 k n a b ((sumN (edgesAt n a b) x : Nat) : Int) (x : Int)) ((edgesN n a b : Nat) : Int) := by
    refine Ev.count (fun k x => spec_l23Edges.l0 k n a b ((sumN (edgesAt n a b) x : Nat) : Int) (x : Int)) (2 ^ n) _ ?_ ?_
    · intro x hx h
      have hS := edgesUp_le n a b x
      have hS2 : x * n ≤ 32 * 5 := Nat.mul_le_mul (by omega) hn
      refine Ev.step (f := fun k => spec_l23Edges.l1 k n a b ((sumN (edgesAt n a b) x + sumN (edgeB a b x) 0 : Nat) : Int) (x : Int) ((0 : Nat) : Int)) (fun k => ?_) (spec_l23Edges.inner hn ha hb hx (by omega) h n 0 (by omega))
      simp only [spec_l23Edges.l0]
      rw [if_pos (Int.natCast_nonneg _), shl_one (by omega), if_pos (by omega)]; rfl
    · refine Ev.end (fun k => ?_)
      simp only [spec_l23Edges.l0]
      rw [if_pos (Int.natCast_nonneg _), shl_one (by omega), if_neg (by omega)]; rfl
  exact key (2 ^ n) 0 (by omega)

/-! ### facts on spec_PairBound -/
--IMPORT M2
open Go.Proofs.Ytcjlfdpfckicjaa.M in
/-- the bound of two sets from their sizes and the pairs between them -/
def spec_PairBound.bnd (x y e : Int) : Option Int := if wrap64 (x * y) = 0 then some 0 else some (wrap64 (Int.tdiv (wrap64 ((wrap64 ((wrap64 (e * e)) + (wrap64 (x * y)))) - 1)) (wrap64 (x * y))))
open Go.Proofs.Ytcjlfdpfckicjaa.M in
def spec_PairBound.val (m x y : Nat) : Int := (spec_PairBound.bnd ((pc x : Nat) : Int) ((pc y : Nat) : Int) ((edgesN m x y : Nat) : Int)).getD 0
theorem spec_PairBound.getD_of {o : Option Int} (h : ∃ r, o = some r) : o = some (o.getD 0) := by
  obtain ⟨r, rfl⟩ := h; rfl
open Go.Proofs.Ytcjlfdpfckicjaa.M in
theorem spec_PairBound.bnd_some (m x y : Nat) : spec_PairBound.bnd ((pc x : Nat) : Int) ((pc y : Nat) : Int) ((edgesN m x y : Nat) : Int) = some (spec_PairBound.val m x y) := by
  exact spec_PairBound.getD_of (ite_some _ _ _)
open Go.Proofs.Ytcjlfdpfckicjaa.M in
theorem spec_PairBound.ev {m x y : Nat} (hm : m ≤ 4) (hx : x < 2 ^ 2 ^ m) (hy : y < 2 ^ 2 ^ m) : Ev (fun k => spec_PairBound.f k m x y) (spec_PairBound.val m x y) := by
  have hf := full_p63 (n := m) (by omega)
  have h32 := full_lt (n := m) (by omega)
  obtain ⟨K1, e1⟩ := spec_l23Edges.ev (n := m) (a := x) (b := y) (by omega) (by omega) (by omega)
  obtain ⟨K3, e3⟩ := spec_l2Count.ev (w := x) (by omega)
  obtain ⟨K4, e4⟩ := spec_l2Count.ev (w := y) (by omega)
  refine ⟨max K1 (max K3 K4), fun k hk => ?_⟩
  have q1 : spec_l23Edges.f k m x y = some _ := e1 k (by omega)
  have q3 : spec_l2Count.f k x = some _ := e3 k (by omega)
  have q4 : spec_l2Count.f k y = some _ := e4 k (by omega)
  have ht : spec_l23Fine.is (m : Int) (x : Int) (y : Int) = true := decide_eq_true ⟨Int.natCast_nonneg _, by omega, Int.natCast_nonneg _, by rw [Int.toNat_natCast]; exact_mod_cast hx, Int.natCast_nonneg _, by rw [Int.toNat_natCast]; exact_mod_cast hy⟩
  have hb := spec_PairBound.bnd_some m x y
  show spec_PairBound.f k m x y = some _
  generalize spec_PairBound.val m x y = r at hb ⊢
  unfold spec_PairBound.f
  rw [spec_l23Fine.ev, ht, Option.bind_some, if_pos rfl, q3, Option.bind_some, q4, Option.bind_some, q1]
  exact hb

/-! ### facts on spec_BestPair -/
--IMPORT M2
open Go.Proofs.Ytcjlfdpfckicjaa.M in
def spec_BestPair.stepB (V : Nat → Nat → Int) (v a b : Nat) (s : Int × Int × Int) : Int × Int × Int := if b &&& v = 0 then (if V a b > s.2.2 then ((a : Int), (b : Int), V a b) else s) else s
open Go.Proofs.Ytcjlfdpfckicjaa.M in
def spec_BestPair.stepA (V : Nat → Nat → Int) (v w a : Nat) (s : Int × Int × Int) : Int × Int × Int := if a &&& v = a then iter (spec_BestPair.stepB V v a) 0 (w + 1) s else s
open Go.Proofs.Ytcjlfdpfckicjaa.M in
def spec_BestPair.res (V : Nat → Nat → Int) (v w : Nat) : Int × Int × Int × Bool := ((iter (spec_BestPair.stepA V v w) 0 (v + 1) (0, 0, 0)).1, (iter (spec_BestPair.stepA V v w) 0 (v + 1) (0, 0, 0)).2.1, (iter (spec_BestPair.stepA V v w) 0 (v + 1) (0, 0, 0)).2.2, true)
open Go.Proofs.Ytcjlfdpfckicjaa.M in
theorem spec_BestPair.inner {n v w : Nat} (hn : n ≤ 5) (hv : v < 2 ^ 2 ^ n) (hw : w = 2 ^ 2 ^ n - 1 - v) (V : Nat → Nat → Int)
    (hV : ∀ a b : Nat, a < 2 ^ 2 ^ n → b < 2 ^ 2 ^ n → Ev (fun k => spec_PairBound.f k n a b) (V a b)) {a : Nat} (ha : a < 2 ^ 2 ^ n) (s : Int × Int × Int) {r : Int × Int × Int × Bool}
    (h : Ev (fun k => spec_BestPair.l0 k (iter (spec_BestPair.stepB V v a) 0 (w + 1) s).1 (iter (spec_BestPair.stepB V v a) 0 (w + 1) s).2.1 (iter (spec_BestPair.stepB V v a) 0 (w + 1) s).2.2 ((a + 1 : Nat) : Int) n v) r) :
    Ev (fun k => spec_BestPair.l1 k s.1 s.2.1 s.2.2 a ((0 : Nat) : Int) n v) r := by
  have hf := full_p63 hn
  have h32 := full_lt hn
  have ew : wrap64 (((2 ^ 2 ^ n : Nat) : Int) - 1 - (v : Int)) = (w : Int) := by
    rw [w64 (by omega) (by omega)]; omega
  refine Ev.up (fun k s b => spec_BestPair.l1 k s.1 s.2.1 s.2.2 a (b : Int) n v) (w + 1) (fun _ _ => True) (spec_BestPair.stepB V v a) r (fun _ _ _ _ => trivial) ?_ (w + 1) 0 s (by omega) trivial ?_
  · intro b s hb _ hn2
    have hbb : b < 2 ^ 2 ^ n := by omega
    have hs : ∀ k, spec_BestPair.l1 (k + 1) s.1 s.2.1 s.2.2 a (b : Int) n v = if b &&& v = 0 then (spec_PairBound.f k n a b).bind fun t => (if t > s.2.2 then spec_BestPair.l1 k a b t a ((b + 1 : Nat) : Int) n v else spec_BestPair.l1 k s.1 s.2.1 s.2.2 a ((b + 1 : Nat) : Int) n v) else spec_BestPair.l1 k s.1 s.2.1 s.2.2 a ((b + 1 : Nat) : Int) n v := by
      intro k
      simp only [spec_BestPair.l1]
      rw [spec_l2Full.ev hn, Option.bind_some, ew, if_pos (by omega), and_nat (by omega) (by omega), up1 (by omega)]
      by_cases e : b &&& v = 0
      · rw [if_pos (by omega), if_pos e]
      · rw [if_neg (by omega), if_neg e]
    refine Ev.step hs ?_
    by_cases e : b &&& v = 0
    · simp only [if_pos e]
      refine Ev.bind (hV a b ha hbb) ?_
      simp only [spec_BestPair.stepB, if_pos e] at hn2
      by_cases g : V a b > s.2.2
      · simp only [if_pos g] at hn2 ⊢; exact hn2
      · simp only [if_neg g] at hn2 ⊢; exact hn2
    · simp only [if_neg e]
      simp only [spec_BestPair.stepB, if_neg e] at hn2
      exact hn2
  · intro _
    refine Ev.step (fun k => ?_) h
    simp only [spec_BestPair.l1]
    rw [spec_l2Full.ev hn, Option.bind_some, ew, if_neg (by omega), up1 (by omega)]
open Go.Proofs.Ytcjlfdpfckicjaa.M in
theorem spec_BestPair.loop {n v w : Nat} (hn : n ≤ 5) (hv : v < 2 ^ 2 ^ n) (hw : w = 2 ^ 2 ^ n - 1 - v) (V : Nat → Nat → Int)
    (hV : ∀ a b : Nat, a < 2 ^ 2 ^ n → b < 2 ^ 2 ^ n → Ev (fun k => spec_PairBound.f k n a b) (V a b)) :
    Ev (fun k => spec_BestPair.l0 k 0 0 0 0 n v) (spec_BestPair.res V v w) := by
  have hf := full_p63 hn
  have h32 := full_lt hn
  refine Ev.up (fun k s a => spec_BestPair.l0 k s.1 s.2.1 s.2.2 (a : Int) n v) (v + 1) (fun _ _ => True) (spec_BestPair.stepA V v w) (spec_BestPair.res V v w) (fun _ _ _ _ => trivial) ?_ (v + 1) 0 (0, 0, 0) (by omega) trivial ?_
  · intro a s ha _ hn2
    by_cases e : a &&& v = a
    · refine Ev.step (fun k => ?_) (spec_BestPair.inner hn hv hw V hV (a := a) (by omega) s (by simpa only [spec_BestPair.stepA, if_pos e] using hn2))
      simp only [spec_BestPair.l0]
      rw [if_pos (by omega), and_nat (by omega) (by omega), if_pos (by omega)]; rfl
    · simp only [spec_BestPair.stepA, if_neg e] at hn2
      refine Ev.step (fun k => ?_) hn2
      simp only [spec_BestPair.l0]
      rw [if_pos (by omega), and_nat (by omega) (by omega), if_neg (by omega), up1 (by omega)]
  · intro _
    refine Ev.end (fun k => ?_)
    simp only [spec_BestPair.l0]
    rw [if_neg (by omega)]; rfl

/-! ### facts on impl_isBits -/
theorem impl_isBits.ev (a : Int) : impl_isBits.f a = some (decide (0 ≤ a ∧ a ≤ 5)) := by
  unfold impl_isBits.f
  by_cases h : 0 ≤ a
  · rw [if_pos h]; simp [h]
  · rw [if_neg h]; simp [h]

/-! ### facts on impl_IsTable -/
--IMPORT M0
open Go.Proofs.Ytcjlfdpfckicjaa.M in
theorem impl_IsTable.ev (a b : Int) : impl_IsTable.f a b = some (isT a b) := by
  unfold impl_IsTable.f isT
  rw [impl_isBits.ev]
  by_cases h : 0 ≤ a ∧ a ≤ 5
  · obtain ⟨n, rfl⟩ := nat_of h.1
    have hn : n ≤ 5 := by omega
    simp only [Option.bind_some, h, and_self, decide_true, if_true]
    by_cases hb : b ≥ 0
    · obtain ⟨v, rfl⟩ := nat_of hb
      have h5 := pow_le_5 hn
      rw [if_pos hb]
      unfold impl_Table_size.f
      rw [if_pos (Int.natCast_nonneg n), shl_one (by omega)]
      simp only [Option.bind_some]
      rw [if_pos (Int.natCast_nonneg _), shr_nat (by omega)]
      congr 1
      rw [Bool.eq_iff_iff]
      simp only [beq_iff_eq, decide_eq_true_eq, Int.toNat_natCast]
      have hz : v / 2 ^ 2 ^ n = 0 ↔ v < 2 ^ 2 ^ n := Nat.div_eq_zero_iff_lt (Nat.two_pow_pos _)
      rw [show (((v / 2 ^ 2 ^ n : Nat) : Int) = 0 ↔ v / 2 ^ 2 ^ n = 0) from by omega, hz]
      obtain ⟨P, hP⟩ : ∃ P, P = 2 ^ 2 ^ n := ⟨_, rfl⟩
      rw [← hP]
      simp only [h, true_and]
      omega
    · rw [if_neg hb]
      congr 1
      symm
      apply decide_eq_false
      omega
  · have h' : ¬ (0 ≤ a ∧ a ≤ 5 ∧ 0 ≤ b ∧ b < ((2 ^ 2 ^ a.toNat : Nat) : Int)) := fun e => h ⟨e.1, e.2.1⟩
    simp only [h, h', decide_false, Option.bind_some, Bool.false_eq_true, if_false]

/-! ### facts on impl_ones -/
--IMPORT M1
open Go.Proofs.Ytcjlfdpfckicjaa.M in
theorem bits_OnesCount64.ev {w : Nat} (h : w < 2 ^ 32) : bits_OnesCount64.f w = some ((pc w : Nat) : Int) := by
  unfold bits_OnesCount64.f
  rw [sA_eq h, sB_eq (sA_lt h), sC_eq (sB_lt (sA_lt h))]
  exact congrArg some (swar_end h rfl _ rfl)
open Go.Proofs.Ytcjlfdpfckicjaa.M in
theorem impl_ones.ev {w : Nat} (h : w < 2 ^ 32) : impl_ones.f w = some ((pc w : Nat) : Int) := by
  unfold impl_ones.f
  rw [u64n (by omega), bits_OnesCount64.ev h]; rfl

/-! ### facts on impl_edges -/
--IMPORT M2
open Go.Proofs.Ytcjlfdpfckicjaa.M in
theorem impl_edges.inner {n a b : Nat} (hn : n ≤ 5) (ha : a < 2 ^ 63) (hb : b < 2 ^ 63) {x : Nat} (hx : x < 2 ^ n) {S : Nat} (hS : S ≤ 1000) {r : Int}
    (he : Ev (fun k => impl_edges.l0 k n a b ((S + edgesAt n a b x : Nat) : Int) ((2 ^ n : Nat) : Int) ((x + 1 : Nat) : Int)) r) :
    ∀ d i, i + d = n → Ev (fun k => impl_edges.l1 k n a b ((S + sumN (edgeB a b x) i : Nat) : Int) (x : Int) ((2 ^ n : Nat) : Int) (x : Int) (n : Int) (i : Int)) r := by
  have h5 := pow_le_5 hn
  refine Ev.count (fun k i => impl_edges.l1 k n a b ((S + sumN (edgeB a b x) i : Nat) : Int) (x : Int) ((2 ^ n : Nat) : Int) (x : Int) (n : Int) (i : Int)) n r ?_ ?_
  · intro i hi h
    refine Ev.step (fun k => ?_) h
    have hle := sumN_le (edgeB_le a b x) i
    have hf := flip_lt (lt_pow5 hx hn) (show i < 5 by omega)
    simp only [impl_edges.l1]
    have e1 : Go.bits .and .i64 (Go.bits .and .i64 (shr .i64 (a : Int) (x : Int)) 1) (shr .i64 (b : Int) ((x ^^^ 2 ^ i : Nat) : Int)) = ((edgeB a b x i : Nat) : Int) := by
      rw [bit_nat ha (by omega), shr_nat (by omega), and_nat (Nat.lt_trans (toNat_lt _) (by decide)) (Nat.lt_of_le_of_lt (Nat.div_le_self _ _) hb)]
      unfold edgeB
      cases a.testBit x
      · simp
      · rw [show (true).toNat = 1 from rfl, Nat.and_comm, bit_of]; rfl
    rw [if_pos (by omega), if_pos (by omega), if_pos (by omega), flip_int (lt_pow5 hx hn) (by omega), if_pos (Int.natCast_nonneg _), e1, up1 (by omega)]
    have e2 := edgeB_le a b x i
    rw [w64 (by omega) (by omega)]
    show _ = impl_edges.l1 k n a b ((S + (sumN (edgeB a b x) i + edgeB a b x i) : Nat) : Int) _ _ _ _ _
    congr 1; omega
  · refine Ev.step (fun k => ?_) he
    simp only [impl_edges.l1]
    rw [if_neg (by omega), up1 (by omega)]; rfl
open Go.Proofs.Ytcjlfdpfckicjaa.M in
theorem impl_edges.ev {n a b : Nat} (hn : n ≤ 5) (ha : a < 2 ^ 63) (hb : b < 2 ^ 63) : Ev (fun k => impl_edges.f k n a b) ((edgesN n a b : Nat) : Int) := by
  have h5 := pow_le_5 hn
  have key : ∀ d x, x + d = 2 ^ n → Ev (fun k => impl_edges.l0 k n a b ((sumN (edgesAt n a b) x : Nat) : Int) ((2 ^ n : Nat) : Int) (x : Int)) ((edgesN n a b : Nat) : Int) := by
    refine Ev.count (fun k x => impl_edges.l0 k n a b ((sumN (edgesAt n a b) x : Nat) : Int) ((2 ^ n : Nat) : Int) (x : Int)) (2 ^ n) _ ?_ ?_
    · intro x hx h
      have hS := edgesUp_le n a b x
      have hS2 : x * n ≤ 32 * 5 := Nat.mul_le_mul (by omega) hn
      refine Ev.step (f := fun k => impl_edges.l1 k n a b ((sumN (edgesAt n a b) x + sumN (edgeB a b x) 0 : Nat) : Int) (x : Int) ((2 ^ n : Nat) : Int) (x : Int) (n : Int) ((0 : Nat) : Int)) (fun k => ?_) (impl_edges.inner hn ha hb hx (by omega) h n 0 (by omega))
      simp only [impl_edges.l0]
      rw [if_pos (by omega)]; rfl
    · refine Ev.end (fun k => ?_)
      simp only [impl_edges.l0]
      rw [if_neg (by omega)]; rfl
  refine Ev.congr (fun k => ?_) (key (2 ^ n) 0 (by omega))
  unfold impl_edges.f
  rw [if_pos (Int.natCast_nonneg _), shl_one (by omega)]; rfl

/-! ### facts on impl_bound -/
--IMPORT M2
open Go.Proofs.Ytcjlfdpfckicjaa.M in
theorem impl_bound.ev {m x y : Nat} (hm : m ≤ 4) (hx : x < 2 ^ 2 ^ m) (hy : y < 2 ^ 2 ^ m) : Ev (fun k => impl_bound.f k m x y) (spec_PairBound.val m x y) := by
  have hf := full_p63 (n := m) (by omega)
  have h32 := full_lt (n := m) (by omega)
  obtain ⟨K1, e1⟩ := impl_edges.ev (n := m) (a := x) (b := y) (by omega) (by omega) (by omega)
  refine ⟨K1, fun k hk => ?_⟩
  have q1 : impl_edges.f k m x y = some _ := e1 k (by omega)
  have hb := spec_PairBound.bnd_some m x y
  show impl_bound.f k m x y = some _
  generalize spec_PairBound.val m x y = r at hb ⊢
  unfold impl_bound.f
  rw [impl_ones.ev (w := x) (by omega), impl_ones.ev (w := y) (by omega), Option.bind_some, Option.bind_some, q1]
  exact hb

/-! ### facts on impl_Table_not -/
--IMPORT M0
open Go.Proofs.Ytcjlfdpfckicjaa.M in
theorem impl_Table_not.ev {n v : Nat} (hn : n ≤ 5) (hv : v < 2 ^ 2 ^ n) : impl_Table_not.f n v = some ((n : Int), ((notW (2 ^ n) v : Nat) : Int)) := by
  have h5 := pow_le_5 hn
  have hf := full_p63 hn
  have hp := Nat.two_pow_pos (2 ^ n)
  unfold impl_Table_not.f impl_Table_size.f
  rw [if_pos (Int.natCast_nonneg n)]
  simp only [Option.bind_some]
  have hs : 0 ≤ shl .i64 1 (n : Int) := by rw [shl_one (by omega)]; exact Int.natCast_nonneg _
  rw [if_pos hs, full_word' hn]
  have e : ((2 ^ 2 ^ n : Nat) : Int) - 1 = ((2 ^ 2 ^ n - 1 : Nat) : Int) := by omega
  rw [e, xor_nat (by omega) (by omega)]; rfl

/-! ### facts on impl_BestPair -/
--IMPORT M2
open Go.Proofs.Ytcjlfdpfckicjaa.M in
theorem impl_BestPair.inner {n v w : Nat} (hn : n ≤ 5) (hv : v < 2 ^ 2 ^ n) (hw : w < 2 ^ 2 ^ n) (V : Nat → Nat → Int)
    (hV : ∀ a b : Nat, a < 2 ^ 2 ^ n → b < 2 ^ 2 ^ n → Ev (fun k => impl_bound.f k n a b) (V a b)) {a : Nat} (ha : a < 2 ^ 2 ^ n) (hs : a &&& v = a) (s : Int × Int × Int) {r : Int × Int × Int × Bool}
    (h : Ev (fun k => impl_BestPair.l0 k (iter (spec_BestPair.stepB V v a) 0 (w + 1) s).1 (iter (spec_BestPair.stepB V v a) 0 (w + 1) s).2.1 (iter (spec_BestPair.stepB V v a) 0 (w + 1) s).2.2 ((v + 1 : Nat) : Int) ((a + 1 : Nat) : Int) n v) r) :
    Ev (fun k => impl_BestPair.l1 k s.1 s.2.1 s.2.2 a ((v + 1 : Nat) : Int) a ((w + 1 : Nat) : Int) ((0 : Nat) : Int) n v) r := by
  have hf := full_p63 hn
  have h32 := full_lt hn
  have h0 := subset_iff.mp hs
  refine Ev.up (fun k s b => impl_BestPair.l1 k s.1 s.2.1 s.2.2 a ((v + 1 : Nat) : Int) a ((w + 1 : Nat) : Int) (b : Int) n v) (w + 1) (fun _ _ => True) (spec_BestPair.stepB V v a) r (fun _ _ _ _ => trivial) ?_ (w + 1) 0 s (by omega) trivial ?_
  · intro b s hb _ hn2
    have hbb : b < 2 ^ 2 ^ n := by omega
    have hs1 : ∀ k, impl_BestPair.l1 (k + 1) s.1 s.2.1 s.2.2 a ((v + 1 : Nat) : Int) a ((w + 1 : Nat) : Int) (b : Int) n v = impl_BestPair.j2 k s.1 s.2.1 s.2.2 a b ((v + 1 : Nat) : Int) a ((w + 1 : Nat) : Int) (b : Int) (((b &&& v : Nat) : Int) != 0) n v := by
      intro k
      simp only [impl_BestPair.l1]
      rw [if_pos (by omega), andNot_nat (by omega) (by omega), h0, if_pos (show ((0 : Nat) : Int) = 0 from rfl), and_nat (by omega) (by omega)]
    have hs2 : ∀ k, impl_BestPair.j2 (k + 1) s.1 s.2.1 s.2.2 a b ((v + 1 : Nat) : Int) a ((w + 1 : Nat) : Int) (b : Int) (((b &&& v : Nat) : Int) != 0) n v = if b &&& v = 0 then (impl_bound.f k n a b).bind fun t => (if t > s.2.2 then impl_BestPair.l1 k a b t a ((v + 1 : Nat) : Int) a ((w + 1 : Nat) : Int) ((b + 1 : Nat) : Int) n v else impl_BestPair.l1 k s.1 s.2.1 s.2.2 a ((v + 1 : Nat) : Int) a ((w + 1 : Nat) : Int) ((b + 1 : Nat) : Int) n v) else impl_BestPair.l1 k s.1 s.2.1 s.2.2 a ((v + 1 : Nat) : Int) a ((w + 1 : Nat) : Int) ((b + 1 : Nat) : Int) n v := by
      intro k
      simp only [impl_BestPair.j2]
      rw [up1 (by omega)]
      by_cases e : b &&& v = 0
      · rw [if_pos e, e, if_neg (show ¬ (((0 : Nat) : Int) != 0) = true from by decide)]
      · rw [if_neg e, if_pos (bne_iff_ne.mpr (by omega))]
    refine Ev.step hs1 (Ev.step hs2 ?_)
    by_cases e : b &&& v = 0
    · simp only [if_pos e]
      refine Ev.bind (hV a b ha hbb) ?_
      simp only [spec_BestPair.stepB, if_pos e] at hn2
      by_cases g : V a b > s.2.2
      · simp only [if_pos g] at hn2 ⊢; exact hn2
      · simp only [if_neg g] at hn2 ⊢; exact hn2
    · simp only [if_neg e]
      simp only [spec_BestPair.stepB, if_neg e] at hn2
      exact hn2
  · intro _
    refine Ev.step (fun k => ?_) h
    simp only [impl_BestPair.l1]
    rw [if_neg (by omega), up1 (by omega)]
open Go.Proofs.Ytcjlfdpfckicjaa.M in
theorem impl_BestPair.skip {n v w : Nat} (hn : n ≤ 5) (hv : v < 2 ^ 2 ^ n) (hw : w < 2 ^ 2 ^ n) {a : Nat} (ha : a < 2 ^ 2 ^ n) (hs : ¬ a &&& v = a) (s : Int × Int × Int) {r : Int × Int × Int × Bool}
    (h : Ev (fun k => impl_BestPair.l0 k s.1 s.2.1 s.2.2 ((v + 1 : Nat) : Int) ((a + 1 : Nat) : Int) n v) r) :
    Ev (fun k => impl_BestPair.l1 k s.1 s.2.1 s.2.2 a ((v + 1 : Nat) : Int) a ((w + 1 : Nat) : Int) ((0 : Nat) : Int) n v) r := by
  have hf := full_p63 hn
  have h32 := full_lt hn
  have h0 : ¬ andn a v = 0 := fun e => hs (subset_iff.mpr e)
  refine Ev.count (fun k b => impl_BestPair.l1 k s.1 s.2.1 s.2.2 a ((v + 1 : Nat) : Int) a ((w + 1 : Nat) : Int) (b : Int) n v) (w + 1) r ?_ ?_ (w + 1) 0 (by omega)
  · intro b hb hn2
    refine Ev.step (f := fun k => impl_BestPair.j2 k s.1 s.2.1 s.2.2 a b ((v + 1 : Nat) : Int) a ((w + 1 : Nat) : Int) (b : Int) true n v) (fun k => ?_) (Ev.step (fun k => ?_) hn2)
    · simp only [impl_BestPair.l1]
      rw [if_pos (by omega), andNot_nat (by omega) (by omega), if_neg (by omega)]
    · simp only [impl_BestPair.j2]
      rw [if_pos trivial, up1 (by omega)]
  · refine Ev.step (fun k => ?_) h
    simp only [impl_BestPair.l1]
    rw [if_neg (by omega), up1 (by omega)]
open Go.Proofs.Ytcjlfdpfckicjaa.M in
theorem impl_BestPair.loop {n v w : Nat} (hn : n ≤ 5) (hv : v < 2 ^ 2 ^ n) (hw : w = notW (2 ^ n) v) (V : Nat → Nat → Int)
    (hV : ∀ a b : Nat, a < 2 ^ 2 ^ n → b < 2 ^ 2 ^ n → Ev (fun k => impl_bound.f k n a b) (V a b)) :
    Ev (fun k => impl_BestPair.l0 k 0 0 0 ((v + 1 : Nat) : Int) 0 n v) (spec_BestPair.res V v w) := by
  have hf := full_p63 hn
  have h32 := full_lt hn
  have hwl : w < 2 ^ 2 ^ n := by rw [hw]; exact notW_lt hv
  have ew : ∀ W, (((W + 1 : Nat) : Int)) = (W : Int) + 1 := fun W => by omega
  refine Ev.up (fun k s a => impl_BestPair.l0 k s.1 s.2.1 s.2.2 ((v + 1 : Nat) : Int) (a : Int) n v) (v + 1) (fun _ _ => True) (spec_BestPair.stepA V v w) (spec_BestPair.res V v w) (fun _ _ _ _ => trivial) ?_ (v + 1) 0 (0, 0, 0) (by omega) trivial ?_
  · intro a s ha _ hn2
    have h1 : ∀ k, impl_BestPair.l0 (k + 1) s.1 s.2.1 s.2.2 ((v + 1 : Nat) : Int) (a : Int) n v = impl_BestPair.l1 k s.1 s.2.1 s.2.2 a ((v + 1 : Nat) : Int) a ((w + 1 : Nat) : Int) ((0 : Nat) : Int) n v := by
      intro k
      simp only [impl_BestPair.l0]
      rw [if_pos (by omega), impl_Table_not.ev hn hv, Option.bind_some, ← hw]
      show impl_BestPair.l1 k s.1 s.2.1 s.2.2 a ((v + 1 : Nat) : Int) a (wrap64 ((w : Int) + 1)) 0 n v = _
      rw [up1 (by omega)]; rfl
    refine Ev.step h1 ?_
    by_cases e : a &&& v = a
    · exact impl_BestPair.inner hn hv hwl V hV (by omega) e s (by simpa only [spec_BestPair.stepA, if_pos e] using hn2)
    · exact impl_BestPair.skip hn hv hwl (by omega) e s (by simpa only [spec_BestPair.stepA, if_neg e] using hn2)
  · intro _
    refine Ev.end (fun k => ?_)
    simp only [impl_BestPair.l0]
    rw [if_neg (by omega)]; rfl

/-! ### facts on laws_FnExactBestPair -/
--IMPORT M2
open Go.Proofs.Ytcjlfdpfckicjaa.M in
theorem laws_FnExactBestPair.notW_sub {N v : Nat} (h : v < 2 ^ N) : notW N v = 2 ^ N - 1 - v := by
  rw [show 2 ^ N - 1 - v = 2 ^ N - (v + 1) from by omega]
  apply Nat.eq_of_testBit_eq
  intro i
  rw [Nat.testBit_two_pow_sub_succ h, notW, Nat.testBit_xor, Nat.testBit_two_pow_sub_one]
  by_cases hi : i < N
  · simp [hi]
  · simp only [hi, decide_false, Bool.false_and, Bool.xor_false]
    exact Nat.testBit_lt_two_pow (Nat.lt_of_lt_of_le h (Nat.pow_le_pow_right (by decide) (by omega)))
theorem laws_FnExactBestPair.same {S I : Option (Int × Int × Int × Bool)} {r : Int × Int × Int × Bool} (hs : S = some r) (hi : I = some r) :
    (S.bind fun t => I.bind fun u => if u.1 = t.1 then (if u.2.1 = t.2.1 then (if u.2.2.1 = t.2.2.1 then (if (u.2.2.2 != t.2.2.2) = true then some false else some true) else some false) else some false) else some false) = some true := by
  subst hs hi; simp
open Go.Proofs.Ytcjlfdpfckicjaa.M in
theorem laws_FnExactBestPair.same_ev {S I : Nat → Option (Int × Int × Int × Bool)} {r : Int × Int × Int × Bool} (hs : Ev S r) (hi : Ev I r) :
    ∃ k, ((S k).bind fun t => (I k).bind fun u => if u.1 = t.1 then (if u.2.1 = t.2.1 then (if u.2.2.1 = t.2.2.1 then (if (u.2.2.2 != t.2.2.2) = true then some false else some true) else some false) else some false) else some false) = some true := by
  obtain ⟨K1, h1⟩ := hs
  obtain ⟨K2, h2⟩ := hi
  exact ⟨max K1 K2, laws_FnExactBestPair.same (h1 _ (Nat.le_max_left _ _)) (h2 _ (Nat.le_max_right _ _))⟩
open Go.Proofs.Ytcjlfdpfckicjaa.M in
theorem laws_FnExactBestPair.pure_ : laws_FnExactBestPair.Pure := by
  intro a b _ _
  unfold laws_FnExactBestPair.f laws_toTable.f spec_BestPair.f impl_BestPair.f impl_isSmall.f
  simp only [Option.bind_some]
  rw [spec_IsTable.ev, impl_IsTable.ev]
  cases ht : isT a b with
  | false => exact ⟨1, by simp [spec_BestPair.j0]⟩
  | true =>
    obtain ⟨n, v, rfl, rfl, hn, hv⟩ := isT_nat ht
    simp only [Option.bind_some, if_true]
    by_cases h4 : (n : Int) ≤ 3
    · have hf := full_p63 (n := n) (by omega)
      have h32 := full_lt hn
      have h1 : ∀ a b : Nat, a < 2 ^ 2 ^ n → b < 2 ^ 2 ^ n → Ev (fun k => spec_PairBound.f k n a b) (spec_PairBound.val n a b) := fun a b ha hb => spec_PairBound.ev (by omega) ha hb
      have h2 : ∀ a b : Nat, a < 2 ^ 2 ^ n → b < 2 ^ 2 ^ n → Ev (fun k => impl_bound.f k n a b) (spec_PairBound.val n a b) := fun a b ha hb => impl_bound.ev (by omega) ha hb
      generalize spec_PairBound.val n = V at h1 h2
      have hs := spec_BestPair.loop hn hv (laws_FnExactBestPair.notW_sub hv) V h1
      have hi := impl_BestPair.loop hn hv rfl V h2
      generalize spec_BestPair.res V v (notW (2 ^ n) v) = r at hs hi
      refine laws_FnExactBestPair.same_ev (r := r) ?_ ?_
      · refine Ev.step (fun k => ?_) hs
        simp only [spec_BestPair.j0]
        rw [if_neg (by simpa using h4)]
      · rw [decide_eq_true h4]
        refine Ev.congr (fun k => ?_) hi
        rw [if_pos rfl, up1 (by omega)]
    · have h5 : (n : Int) > 3 := by omega
      exact ⟨1, by simp [h4, h5, spec_BestPair.j0]⟩

end Go.Proofs.Ytcjlfdpfckicjaa.Print
