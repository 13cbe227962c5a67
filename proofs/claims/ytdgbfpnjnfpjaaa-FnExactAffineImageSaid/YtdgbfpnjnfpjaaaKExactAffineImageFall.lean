/- Functions of the given program as plain Lean functions, with proofs that their calls compute them, or lemmas on these. Laid by a program of this repo for the seat Ytdgbfpnjnfpjaaa; Lean checks it. -/
import Derived.Test.YtdgbfpnjnfpjaaaKExactAffineImage0
import Derived.Test.YtdgbfpnjnfpjaaaKExactAffineImage1
import Derived.Test.YtdgbfpnjnfpjaaaKExactAffineImage2
import Derived.Test.YtdgbfpnjnfpjaaaKExactAffineImage5
import Derived.Test.YtdgbfpnjnfpjaaaKExactAffineImage7
import Derived.Test.YtdgbfpnjnfpjaaaKExactAffineImage10
import Derived.Test.YtdgbfpnjnfpjaaaKExactAffineImage11
import Derived.Test.YtdgbfpnjnfpjaaaM5
import Derived.Test.YtdgbfpnjnfpjaaaM0
namespace Go.Proofs.Ytdgbfpnjnfpjaaa.Print
open Go.RowKit Go.Proofs.YtdgbfpnjnfpjaaaW.PrintWords Go.Proofs.YtdgbfpnjnfpjaaaW.PrintLast Go.Proofs.YtdgbfpnjnfpjaaaW.PrintMore
attribute [local go_sem] max2_int min2_int max_two min_two max_three min_three max_four min_four   -- for this text's walks alone
set_option linter.unusedVariables false
set_option linter.unusedSimpArgs false

/-! ### facts on laws_toIntS -/
--IMPORT M5
open Go.Proofs.Ytdgbfpnjnfpjaaa.M in
theorem laws_toIntS.ev (l : List Int) (h : l.length ≤ 1048576) : Ev (fun k => laws_toIntS.f k l) l := by
  have key : ∀ d i, i + d = l.length → Ev (fun k => laws_toIntS.l0 k l (fillAt id 0 l i) (i : Int)) (l.map id) := by
    refine Ev.count (fun k i => laws_toIntS.l0 k l (fillAt id 0 l i) (i : Int)) l.length _ ?_ ?_
    · intro i hi hn
      refine Ev.step (fun k => ?_) hn
      have hl := fillAt_length id 0 l (i := i) (by omega)
      simp only [laws_toIntS.l0]
      rw [if_pos (by omega), if_pos (by omega), if_pos (by rw [hl]; omega), w64 (by omega) (by omega), rd_nat, Int.toNat_natCast]
      have e := fillAt_set id 0 l 0 hi
      rw [← e]; rfl
    · refine Ev.end (fun k => ?_)
      simp only [laws_toIntS.l0]
      rw [if_neg (by omega), fillAt_all]
  have h0 := key l.length 0 (by omega)
  rw [fillAt_zero, List.map_id] at h0
  refine Ev.congr (fun k => ?_) h0
  unfold laws_toIntS.f
  rw [if_pos (by omega), if_pos (by simp; omega), Int.toNat_natCast]; rfl

/-! ### facts on laws_eqIntS -/
--IMPORT M5
open Go.Proofs.Ytdgbfpnjnfpjaaa.M in
theorem laws_eqIntS.ev (l : List Int) (h : l.length ≤ 1048576) : Ev (fun k => laws_eqIntS.f k l l) true := by
  have key : ∀ d i, i + d = l.length → Ev (fun k => laws_eqIntS.l0 k l l (i : Int)) true := by
    refine Ev.count (fun k i => laws_eqIntS.l0 k l l (i : Int)) l.length _ ?_ ?_
    · intro i hi hn
      refine Ev.step (fun k => ?_) hn
      simp only [laws_eqIntS.l0, if_true]
      rw [if_pos (by omega), if_pos (by omega), if_pos (by omega), w64 (by omega) (by omega)]; rfl
    · refine Ev.end (fun k => ?_)
      simp only [laws_eqIntS.l0]
      rw [if_neg (by omega)]
  refine Ev.congr (fun k => ?_) (key l.length 0 (by omega))
  unfold laws_eqIntS.f
  rw [if_pos rfl]; rfl

/-! ### facts on spec_l1In -/
theorem spec_l1In.ev (a b c : Int) : spec_l1In.f a b c = some (decide (b ≤ a ∧ a ≤ c)) := by
  unfold spec_l1In.f
  by_cases h : b ≤ a
  · rw [if_pos h]; simp [h]
  · rw [if_neg h]; simp [h]

/-! ### facts on spec_RankMod2 -/
--IMPORT M5
open Go.Proofs.Ytdgbfpnjnfpjaaa.M in
theorem spec_RankMod2.inner {l : List Int} {g : Nat → Nat} {n i : Nat} {bs : List Nat} (hbs : ∀ b ∈ bs, b < 32) (hlen : bs.length ≤ 5) (hi : i < 5) {c : Nat} (hc : c < 32) {r : Int}
    (he : Ev (fun k => spec_RankMod2.l0 k l (ints (if red bs c > 0 then bs ++ [red bs c] else bs)) ((i + 1 : Nat) : Int)) r) :
    ∀ d j, j + d = bs.length → Ev (fun k => spec_RankMod2.l1 k l (ints bs) (i : Int) ((red (bs.take j) c : Nat) : Int) (j : Int)) r := by
  refine Ev.count (fun k j => spec_RankMod2.l1 k l (ints bs) (i : Int) ((red (bs.take j) c : Nat) : Int) (j : Int)) bs.length r ?_ ?_
  · intro j hj h
    refine Ev.step (fun k => ?_) h
    have hm : bs.getD j 0 ∈ bs := by rw [List.getD_eq_getElem?_getD, List.getElem?_eq_getElem hj]; exact List.getElem_mem hj
    have h1 := hbs _ hm
    have h2 : red (bs.take j) c < 32 := red_lt (fun b hb => hbs b (List.mem_of_mem_take hb)) hc
    simp only [spec_RankMod2.l1]
    rw [if_pos (by rw [ints_length]; omega), if_pos (by omega), rd_ints, xor_nat (by omega) (by omega), mn_nat, up1 (by omega), take_more bs 0 hj, red_append]
  · refine Ev.step (fun k => ?_) he
    simp only [spec_RankMod2.l1]
    rw [if_neg (by rw [ints_length]; omega), List.take_length]
    by_cases hr : red bs c > 0
    · rw [if_pos (by omega), if_pos (by rw [ints_length]; omega), if_pos hr, up1 (by omega), ints_append]
    · rw [if_neg (by omega), if_neg hr, up1 (by omega)]
open Go.Proofs.Ytdgbfpnjnfpjaaa.M in
theorem spec_RankMod2.ev {l : List Int} {n : Nat} (hn : l.length = n) (h5 : n ≤ 5) (hl : ∀ j, j < n → cols l j < 32 ∧ l.getD j 0 = ((cols l j : Nat) : Int)) :
    Ev (fun k => spec_RankMod2.f k l) (((basis (cols l) n).length : Nat) : Int) := by
  subst hn
  have hb : ∀ i, i ≤ l.length → ∀ b ∈ basis (cols l) i, b < 32 := by
    intro i
    induction i with
    | zero => intro _ b hb; simp [basis] at hb
    | succ i ih =>
      intro hi b hb
      rw [basis] at hb
      have ih' := ih (by omega)
      split at hb
      · rcases List.mem_append.mp hb with h | h
        · exact ih' b h
        · rw [List.mem_singleton.mp h]; exact red_lt ih' (hl i (by omega)).1
      · exact ih' b hb
  have key : ∀ d i, i + d = l.length → Ev (fun k => spec_RankMod2.l0 k l (ints (basis (cols l) i)) (i : Int)) (((basis (cols l) l.length).length : Nat) : Int) := by
    refine Ev.count (fun k i => spec_RankMod2.l0 k l (ints (basis (cols l) i)) (i : Int)) l.length _ ?_ ?_
    · intro i hi h
      obtain ⟨h1, h2⟩ := hl i hi
      have hle := basis_le (cols l) i
      have hin := spec_RankMod2.inner (l := l) (g := cols l) (n := l.length) (i := i) (hb i (by omega)) (by omega) (by omega) h1 h _ 0 (Nat.zero_add _)
      refine Ev.step (f := fun k => spec_RankMod2.j1 k l (ints (basis (cols l) i)) (i : Int) (decide ((i : Int) > 31))) (fun k => ?_) (Ev.step (fun k => ?_) hin)
      · simp only [spec_RankMod2.l0]
        rw [if_pos (by omega), if_pos (by omega), spec_l1In.ev, rd_nat, h2, decide_eq_true (by omega)]
        simp only [Option.bind_some, if_true]
      · simp only [spec_RankMod2.j1]
        rw [decide_eq_false (by omega), if_neg (by decide), if_pos (by omega), if_pos (by omega), rd_nat, h2]; rfl
    · refine Ev.end (fun k => ?_)
      simp only [spec_RankMod2.l0]
      rw [if_neg (by omega), ints_length]
  exact key l.length 0 (by omega)

/-! ### facts on spec_IsInvertible -/
--IMPORT M5
open Go.Proofs.Ytdgbfpnjnfpjaaa.M in
theorem spec_IsInvertible.ev (a : Int) (l : List Int) : Ev (fun k => spec_IsInvertible.f k a l) (invB a l) := by
  unfold invB
  by_cases hb : 0 ≤ a ∧ a ≤ 5
  · obtain ⟨n, rfl⟩ := nat_of hb.1
    have hn : n ≤ 5 := by omega
    have h32 := pow_le_5 hn
    have h1 := Nat.two_pow_pos n
    rw [decide_eq_true hb, Bool.true_and, Int.toNat_natCast]
    by_cases hl : (l.length : Int) = (n : Int)
    · have hln : l.length = n := by omega
      rw [decide_eq_true hl, Bool.true_and]
      have rest : Ev (fun k => spec_IsInvertible.l0 k (n : Int) l 0) (l.all (fun c => decide (0 ≤ c ∧ c < ((2 ^ n : Nat) : Int))) && indB (cols l) n) := by
        have rng : wrap64 (((2 ^ n : Nat) : Int) - 1) = ((2 ^ n : Nat) : Int) - 1 := w64 (by omega) (by omega)
        have step : ∀ i, i < n → ∀ q, decide (0 ≤ l.getD i 0 ∧ l.getD i 0 < ((2 ^ n : Nat) : Int)) = q → ∀ k, spec_IsInvertible.l0 (k + 1) (n : Int) l (i : Int) = if q = true then spec_IsInvertible.l0 k (n : Int) l ((i + 1 : Nat) : Int) else some false := by
          intro i hi q hq k
          simp only [spec_IsInvertible.l0]
          rw [if_pos (by omega), if_pos (by omega), if_pos (by omega), if_pos (by omega), shl_one (by omega), rng, spec_l1In.ev, rd_nat, up1 (by omega)]
          simp only [Option.bind_some]
          rw [← hq, show decide (0 ≤ l.getD i 0 ∧ l.getD i 0 ≤ ((2 ^ n : Nat) : Int) - 1) = decide (0 ≤ l.getD i 0 ∧ l.getD i 0 < ((2 ^ n : Nat) : Int)) from decide_eq_decide.mpr (by omega)]
        cases ha : l.all (fun c => decide (0 ≤ c ∧ c < ((2 ^ n : Nat) : Int))) with
        | true =>
          rw [Bool.true_and]
          have hc : ∀ j, j < n → cols l j < 32 ∧ l.getD j 0 = ((cols l j : Nat) : Int) := fun j hj => by
            obtain ⟨h2, h3⟩ := cols_of ha (show j < l.length by omega)
            exact ⟨by omega, h3⟩
          have e : indB (cols l) n = ((((basis (cols l) n).length : Nat) : Int) == (n : Int)) := by
            rw [Bool.eq_iff_iff, indB_iff, ← basis_iff (fun j hj => (hc j hj).1), beq_iff_eq]
            exact ⟨fun h => by rw [h], fun h => by exact_mod_cast h⟩
          rw [e]
          have key : ∀ d i, i + d = n → Ev (fun k => spec_IsInvertible.l0 k (n : Int) l (i : Int)) ((((basis (cols l) n).length : Nat) : Int) == (n : Int)) := by
            refine Ev.count (fun k i => spec_IsInvertible.l0 k (n : Int) l (i : Int)) n _ ?_ ?_
            · intro i hi h
              exact Ev.step (fun k => by rw [step i hi true (all_true_at ha (show i < l.length by omega)) k, if_pos rfl]) h
            · have hr := spec_RankMod2.ev hln hn hc
              generalize (((basis (cols l) n).length : Nat) : Int) = R at hr ⊢
              refine Ev.step (f := fun k => (spec_RankMod2.f k l).bind fun t => some (t == (n : Int))) (fun k => ?_) (Ev.bind hr (Ev.now _))
              simp only [spec_IsInvertible.l0]
              rw [if_neg (by omega)]
          exact key n 0 (by omega)
        | false =>
          rw [Bool.false_and]
          obtain ⟨j, hj, hf⟩ := all_false_at ha
          exact Ev.bad (fun k i => spec_IsInvertible.l0 k (n : Int) l (i : Int)) n false (fun i => decide (0 ≤ l.getD i 0 ∧ l.getD i 0 < ((2 ^ n : Nat) : Int)))
            (fun i hi h he => Ev.step (fun k => by rw [step i hi true h k, if_pos rfl]) he)
            (fun i hi h => Ev.end (fun k => by rw [step i hi false h k, if_neg (by decide)])) n 0 (by omega) ⟨j, by omega, by omega, hf⟩
      generalize (l.all (fun c => decide (0 ≤ c ∧ c < ((2 ^ n : Nat) : Int))) && indB (cols l) n) = R at rest ⊢
      refine Ev.congr (f := fun k => spec_IsInvertible.j0 k (n : Int) l ((l.length : Int) != (n : Int))) (fun k => ?_) (Ev.step (fun k => ?_) rest)
      · unfold spec_IsInvertible.f
        rw [spec_l1In.ev, decide_eq_true (by omega)]
        simp only [Option.bind_some, if_true]
      · simp only [spec_IsInvertible.j0]
        rw [if_neg (by simp [hl])]
    · rw [decide_eq_false hl, Bool.false_and]
      refine Ev.congr (f := fun k => spec_IsInvertible.j0 k (n : Int) l ((l.length : Int) != (n : Int))) (fun k => ?_) (Ev.end (fun k => ?_))
      · unfold spec_IsInvertible.f
        rw [spec_l1In.ev, decide_eq_true (by omega)]
        simp only [Option.bind_some, if_true]
      · simp only [spec_IsInvertible.j0]
        rw [if_pos (by simp; omega)]
  · rw [decide_eq_false hb, Bool.false_and]
    refine Ev.congr (f := fun k => spec_IsInvertible.j0 k a l true) (fun k => ?_) (Ev.end (fun k => ?_))
    · unfold spec_IsInvertible.f
      rw [spec_l1In.ev, decide_eq_false (by omega)]
      simp only [Option.bind_some, Bool.false_eq_true, if_false]
    · simp only [spec_IsInvertible.j0, if_true]

/-! ### facts on spec_l27Apply -/
--IMPORT M5
open Go.Proofs.Ytdgbfpnjnfpjaaa.M in
theorem spec_l27Apply.ev {l : List Int} {n x : Nat} (hn : l.length = n) (h5 : n ≤ 5) (hl : ∀ j, j < n → cols l j < 32 ∧ l.getD j 0 = ((cols l j : Nat) : Int)) (hx : x < 2 ^ 63) :
    Ev (fun k => spec_l27Apply.f k l (x : Int)) ((img (cols l) x n : Nat) : Int) := by
  subst hn
  have key : ∀ d i, i + d = l.length → Ev (fun k => spec_l27Apply.l0 k l (x : Int) ((img (cols l) x i : Nat) : Int) (i : Int)) ((img (cols l) x l.length : Nat) : Int) := by
    refine Ev.count (fun k i => spec_l27Apply.l0 k l (x : Int) ((img (cols l) x i : Nat) : Int) (i : Int)) l.length _ ?_ ?_
    · intro i hi h
      refine Ev.step (fun k => ?_) h
      obtain ⟨h1, h2⟩ := hl i hi
      have h3 : img (cols l) x i < 2 ^ 5 := img_lt x (fun j hj => (hl j (by omega)).1)
      simp only [spec_l27Apply.l0]
      rw [if_pos (by omega), if_pos (by omega), bit_nat hx (by omega), rd_nat, h2, up1 (by omega), xor_nat (by omega) (by omega)]
      rw [img]
      cases x.testBit i <;> simp
    · refine Ev.end (fun k => ?_)
      simp only [spec_l27Apply.l0]
      rw [if_neg (by omega)]
  exact key l.length 0 (by omega)

/-! ### facts on spec_IsTable -/
--IMPORT M0
open Go.Proofs.Ytdgbfpnjnfpjaaa.M in
theorem spec_IsTable.ev (a b : Int) : spec_IsTable.f a b = some (isT a b) := by
  unfold spec_IsTable.f isT
  rw [spec_l1In.ev]
  by_cases h : 0 ≤ a ∧ a ≤ 5
  · obtain ⟨n, rfl⟩ := nat_of h.1
    have hn : n ≤ 5 := by omega
    simp only [Option.bind_some, h, and_self, decide_true, if_true]
    rw [full_word hn, spec_l1In.ev]
    simp only [Option.bind_some, Int.toNat_natCast, h, true_and]
    congr 1
    apply decide_eq_decide.mpr
    omega
  · have h' : ¬ (0 ≤ a ∧ a ≤ 5 ∧ 0 ≤ b ∧ b < ((2 ^ 2 ^ a.toNat : Nat) : Int)) := fun e => h ⟨e.1, e.2.1⟩
    simp only [h, h', decide_false, Option.bind_some, Bool.false_eq_true, if_false]

/-! ### facts on spec_AffineImage -/
--IMPORT M5
open Go.Proofs.Ytdgbfpnjnfpjaaa.M in
/-- is there an image -/
def spec_AffineImage.fine (a b : Int) (l : List Int) (s : Int) : Bool := isT a b && (invB a l && inR a.toNat s)
open Go.Proofs.Ytdgbfpnjnfpjaaa.M in
theorem spec_AffineImage.evF {a b : Int} {l : List Int} {s : Int} (h : spec_AffineImage.fine a b l s = false) : Ev (fun k => spec_AffineImage.f k a b l s) (0, 0, false) := by
  have hj : Ev (fun k => spec_AffineImage.j0 k l s true a b) (0, 0, false) := Ev.end (fun k => by simp only [spec_AffineImage.j0, if_true])
  unfold spec_AffineImage.fine at h
  cases ht : isT a b with
  | false =>
    refine Ev.congr (fun k => ?_) hj
    unfold spec_AffineImage.f
    rw [spec_IsTable.ev, ht]; rfl
  | true =>
    obtain ⟨n, v, rfl, rfl, hn, hv⟩ := isT_nat ht
    have hi := spec_IsInvertible.ev (n : Int) l
    rw [ht, Bool.true_and] at h
    have hp := pow_le_5 hn
    have hp1 := Nat.two_pow_pos n
    refine Ev.congr (f := fun k => (spec_IsInvertible.f k n l).bind fun t => if t = true then spec_AffineImage.j0 k l s (!(inR n s)) n v else spec_AffineImage.j0 k l s true n v) (fun k => ?_) (Ev.bind hi ?_)
    · unfold spec_AffineImage.f
      rw [spec_IsTable.ev, ht]
      simp only [Option.bind_some, if_true]
      congr 1; funext t
      rw [if_pos (Int.natCast_nonneg n), shl_one (by omega), w64 (by omega) (by omega), spec_l1In.ev]
      simp only [Option.bind_some]
      unfold inR
      rw [show decide (0 ≤ s ∧ s ≤ ((2 ^ n : Nat) : Int) - 1) = decide (0 ≤ s ∧ s < ((2 ^ n : Nat) : Int)) from decide_eq_decide.mpr (by omega)]
    · cases hv2 : invB (n : Int) l with
      | false => exact Ev.congr (fun k => if_neg (by decide)) hj
      | true =>
        rw [hv2, Bool.true_and, Int.toNat_natCast] at h
        refine Ev.congr (fun k => if_pos rfl) ?_
        rw [h]; exact hj
open Go.Proofs.Ytdgbfpnjnfpjaaa.M in
theorem spec_AffineImage.evT {n v s : Nat} {l : List Int} (hn : n ≤ 5) (hv : v < 2 ^ 2 ^ n) (hi : invB (n : Int) l = true) (hs : s < 2 ^ n) : Ev (fun k => spec_AffineImage.f k n v l s) ((n : Int), ((prefW (fun x => v.testBit (img (cols l) x n ^^^ s)) (2 ^ n) : Nat) : Int), true) := by
  obtain ⟨n', e, _, hl, hc, _⟩ := invB_open hi
  obtain rfl : n = n' := by omega
  have h32 := full_lt hn
  have hp := pow_le_5 hn
  have hp1 := Nat.two_pow_pos n
  have hI := spec_IsInvertible.ev (n : Int) l
  rw [hi] at hI
  have key : ∀ d x, x + d = 2 ^ n → Ev (fun k => spec_AffineImage.l0 k l s ((prefW (fun x => v.testBit (img (cols l) x n ^^^ s)) x : Nat) : Int) (x : Int) n v) ((n : Int), ((prefW (fun x => v.testBit (img (cols l) x n ^^^ s)) (2 ^ n) : Nat) : Int), true) := by
    refine Ev.count (fun k x => spec_AffineImage.l0 k l s ((prefW (fun x => v.testBit (img (cols l) x n ^^^ s)) x : Nat) : Int) (x : Int) n v) (2 ^ n) _ ?_ ?_
    · intro x hx h
      have h2 := spec_l27Apply.ev (x := x) hl hn (cols32 hn hc) (by omega)
      have h3 : img (cols l) x n < 2 ^ n := img_lt x (fun j hj => (hc j hj).1)
      have hy : img (cols l) x n ^^^ s < 2 ^ 5 := Nat.xor_lt_two_pow (by omega) (by omega)
      refine Ev.step (f := fun k => (spec_l27Apply.f k l (x : Int)).bind fun t => if 0 ≤ Go.bits .xor .i64 t (s : Int) then spec_AffineImage.l0 k l s (Go.bits .or .i64 ((prefW (fun x => v.testBit (img (cols l) x n ^^^ s)) x : Nat) : Int) (shl .i64 (Go.bits .and .i64 (shr .i64 (v : Int) (Go.bits .xor .i64 t (s : Int))) 1) (x : Int))) ((x + 1 : Nat) : Int) n v else none) (fun k => ?_) (Ev.bind h2 ?_)
      · simp only [spec_AffineImage.l0]
        rw [if_pos (Int.natCast_nonneg n), shl_one (by omega), if_pos (by omega)]
        congr 1; funext t
        rw [if_pos (Int.natCast_nonneg x), up1 (by omega)]
      · have ex : Go.bits .xor .i64 ((img (cols l) x n : Nat) : Int) (s : Int) = ((img (cols l) x n ^^^ s : Nat) : Int) := xor_nat (by omega) (by omega)
        have es := prefW_step (g := fun x => v.testBit (img (cols l) x n ^^^ s)) (x := x) (by omega)
        rw [ex]
        refine Ev.congr (fun k => if_pos (Int.natCast_nonneg _)) ?_
        rw [bit_nat (by omega) (by omega), es]
        exact h
    · refine Ev.end (fun k => ?_)
      simp only [spec_AffineImage.l0]
      rw [if_pos (Int.natCast_nonneg n), shl_one (by omega), if_neg (by omega)]
  refine Ev.congr (f := fun k => (spec_IsInvertible.f k n l).bind fun t => if t = true then spec_AffineImage.j0 k l s false n v else spec_AffineImage.j0 k l s true n v) (fun k => ?_) (Ev.bind hI (Ev.congr (fun k => if_pos rfl) (Ev.step (fun k => ?_) (key (2 ^ n) 0 (by omega)))))
  · unfold spec_AffineImage.f
    rw [spec_IsTable.ev, isT_mk hn hv]
    simp only [Option.bind_some, if_true]
    congr 1; funext t
    rw [if_pos (Int.natCast_nonneg n), shl_one (by omega), w64 (by omega) (by omega), spec_l1In.ev, decide_eq_true (by omega)]
    rfl
  · simp only [spec_AffineImage.j0]
    rw [if_neg (by decide)]; rfl

/-! ### facts on impl_isBits -/
theorem impl_isBits.ev (a : Int) : impl_isBits.f a = some (decide (0 ≤ a ∧ a ≤ 5)) := by
  unfold impl_isBits.f
  by_cases h : 0 ≤ a
  · rw [if_pos h]; simp [h]
  · rw [if_neg h]; simp [h]

/-! ### facts on impl_IsTable -/
--IMPORT M0
open Go.Proofs.Ytdgbfpnjnfpjaaa.M in
theorem impl_IsTable.ev (a b : Int) : impl_IsTable.f a b = some (isT a b) := by
  unfold impl_IsTable.f isT
  rw [impl_isBits.ev]
  by_cases h : 0 ≤ a ∧ a ≤ 5
  · obtain ⟨n, rfl⟩ := nat_of h.1
    have hn : n ≤ 5 := by omega
    simp only [Option.bind_some, h, and_self, decide_true, if_true]
    by_cases hb : b ≥ 0
    · obtain ⟨v, rfl⟩ := nat_of hb
      have h5 := pow_le_5 hn
      rw [if_pos hb]
      unfold impl_Table_size.f
      rw [if_pos (Int.natCast_nonneg n), shl_one (by omega)]
      simp only [Option.bind_some]
      rw [if_pos (Int.natCast_nonneg _), shr_nat (by omega)]
      congr 1
      rw [Bool.eq_iff_iff]
      simp only [beq_iff_eq, decide_eq_true_eq, Int.toNat_natCast]
      have hz : v / 2 ^ 2 ^ n = 0 ↔ v < 2 ^ 2 ^ n := Nat.div_eq_zero_iff_lt (Nat.two_pow_pos _)
      rw [show (((v / 2 ^ 2 ^ n : Nat) : Int) = 0 ↔ v / 2 ^ 2 ^ n = 0) from by omega, hz]
      obtain ⟨P, hP⟩ : ∃ P, P = 2 ^ 2 ^ n := ⟨_, rfl⟩
      rw [← hP]
      simp only [h, true_and]
      omega
    · rw [if_neg hb]
      congr 1
      symm
      apply decide_eq_false
      omega
  · have h' : ¬ (0 ≤ a ∧ a ≤ 5 ∧ 0 ≤ b ∧ b < ((2 ^ 2 ^ a.toNat : Nat) : Int)) := fun e => h ⟨e.1, e.2.1⟩
    simp only [h, h', decide_false, Option.bind_some, Bool.false_eq_true, if_false]

/-! ### facts on impl_hasInput -/
--IMPORT M5
open Go.Proofs.Ytdgbfpnjnfpjaaa.M in
theorem impl_hasInput.ev (a b x : Int) : impl_hasInput.f a b x = some (isT a b && inR a.toNat x) := by
  unfold impl_hasInput.f
  rw [impl_IsTable.ev]
  cases h : isT a b with
  | false => rfl
  | true =>
    obtain ⟨n, v, rfl, rfl, hn, hv⟩ := isT_nat h
    rw [Option.bind_some, if_pos rfl]
    unfold impl_isInput.f inR
    rw [Int.toNat_natCast]
    by_cases hx : x ≥ 0
    · rw [if_pos hx, if_pos (Int.natCast_nonneg n), shl_one (by omega), Option.bind_some]
      congr 1
      rw [Bool.true_and]
      apply decide_eq_decide.mpr
      omega
    · rw [if_neg hx, Option.bind_some]
      congr 1; symm
      rw [Bool.true_and]
      apply decide_eq_false; omega

/-! ### facts on laws_FnExactAffineImage -/
--IMPORT M5
open Go.Proofs.Ytdgbfpnjnfpjaaa.M in
theorem laws_FnExactAffineImage.join {a b : Int} {l : List Int} {s : Int} (hl : l.length ≤ 1048576) {r1 r2 : Int} {r3 : Bool} (hs : Ev (fun k => spec_AffineImage.f k a b l s) (r1, r2, r3)) (hi : impl_AffineImage.f a b l s = some (r1, r2, r3)) : ∃ k, laws_FnExactAffineImage.f k a b l s = some true := by
  obtain ⟨K1, h1⟩ : ∃ K, ∀ k, K ≤ k → laws_toIntS.f k l = some l := laws_toIntS.ev l hl
  obtain ⟨K3, h3⟩ : ∃ K, ∀ k, K ≤ k → laws_eqIntS.f k l l = some true := laws_eqIntS.ev l hl
  obtain ⟨K5, h5⟩ : ∃ K, ∀ k, K ≤ k → spec_AffineImage.f k a b l s = some (r1, r2, r3) := hs
  have n1 : ¬ ((l.length : Int) > 1048576) := by omega
  have he : laws_eqTable.f r1 r2 r1 r2 = some true := by simp [laws_eqTable.f]
  refine ⟨K1 + K3 + K5 + 3, ?_⟩
  simp (disch := omega) only [laws_FnExactAffineImage.f, laws_toTable.f, he, h1, h3, h5, hi, n1, ↓reduceIte, Option.bind_some, bne_self_eq_false, Bool.false_eq_true]
  try simp (disch := omega) only [laws_FnExactAffineImage.j0, laws_toTable.f, he, h1, h3, h5, hi, n1, ↓reduceIte, Option.bind_some, bne_self_eq_false, Bool.false_eq_true]
open Go.Proofs.Ytdgbfpnjnfpjaaa.M in
theorem laws_FnExactAffineImage.pure_ : laws_FnExactAffineImage.Pure := by
  intro a b l s _ _ _ _ _ _
  by_cases hl : l.length ≤ 1048576
  · have e : impl_AffineImage.f a b l s = (if (isT a b && inR a.toNat s) = true then (if invB a l = true then (if 0 ≤ b ∧ b < 4294967296 ∧ 0 ≤ s ∧ s < 32 then some (a, ((prefW (fun x => b.toNat.testBit (img (cols l) x a.toNat ^^^ s.toNat)) (2 ^ a.toNat) : Nat) : Int), true) else none) else some (0, 0, false)) else some (0, 0, false)) := by
      unfold impl_AffineImage.f
      rw [impl_hasInput.ev]; rfl
    cases h : spec_AffineImage.fine a b l s with
    | false =>
      refine laws_FnExactAffineImage.join hl (spec_AffineImage.evF h) ?_
      rw [e]
      unfold spec_AffineImage.fine at h
      cases h1 : isT a b <;> cases h2 : inR a.toNat s <;> cases h3 : invB a l <;> first | rfl | (rw [h1, h2, h3] at h; cases h)
    | true =>
      unfold spec_AffineImage.fine at h
      rw [Bool.and_eq_true, Bool.and_eq_true] at h
      obtain ⟨h1, h2, h3⟩ := h
      obtain ⟨n, v, rfl, rfl, hn, hv⟩ := isT_nat h1
      rw [Int.toNat_natCast] at h3
      obtain ⟨y, rfl, hy⟩ := inR_nat h3
      have h32 := full_lt hn
      have hp := pow_le_5 hn
      refine laws_FnExactAffineImage.join hl (spec_AffineImage.evT hn hv h2 hy) ?_
      rw [e, h1, Int.toNat_natCast, h3, h2, if_pos (show (true && true) = true from rfl), if_pos rfl, if_pos (by omega)]
      rfl
  · exact ⟨0, by unfold laws_FnExactAffineImage.f; rw [if_pos (by omega)]⟩

end Go.Proofs.Ytdgbfpnjnfpjaaa.Print
