/- Functions of the given program as plain Lean functions, with proofs that their calls compute them, or lemmas on these. Laid by a program of this repo for the seat Ytdgbfpnjnfpjaaa; Lean checks it. -/
import Derived.Test.YtdgbfpnjnfpjaaaKExactComposeMaps0
import Derived.Test.YtdgbfpnjnfpjaaaKExactComposeMaps1
import Derived.Test.YtdgbfpnjnfpjaaaKExactComposeMaps4
import Derived.Test.YtdgbfpnjnfpjaaaKExactComposeMaps5
import Derived.Test.YtdgbfpnjnfpjaaaKExactComposeMaps6
import Derived.Test.YtdgbfpnjnfpjaaaM5
namespace Go.Proofs.Ytdgbfpnjnfpjaaa.Print
open Go.RowKit Go.Proofs.YtdgbfpnjnfpjaaaW.PrintWords Go.Proofs.YtdgbfpnjnfpjaaaW.PrintLast Go.Proofs.YtdgbfpnjnfpjaaaW.PrintMore
attribute [local go_sem] max2_int min2_int max_two min_two max_three min_three max_four min_four   -- for this text's walks alone
set_option linter.unusedVariables false
set_option linter.unusedSimpArgs false

/-! ### facts on laws_toIntS -/
--IMPORT M5
open Go.Proofs.Ytdgbfpnjnfpjaaa.M in
theorem laws_toIntS.ev (l : List Int) (h : l.length ≤ 1048576) : Ev (fun k => laws_toIntS.f k l) l := by
  have key : ∀ d i, i + d = l.length → Ev (fun k => laws_toIntS.l0 k l (fillAt id 0 l i) (i : Int)) (l.map id) := by
    refine Ev.count (fun k i => laws_toIntS.l0 k l (fillAt id 0 l i) (i : Int)) l.length _ ?_ ?_
    · intro i hi hn
      refine Ev.step (fun k => ?_) hn
      have hl := fillAt_length id 0 l (i := i) (by omega)
      simp only [laws_toIntS.l0]
      rw [if_pos (by omega), if_pos (by omega), if_pos (by rw [hl]; omega), w64 (by omega) (by omega), rd_nat, Int.toNat_natCast]
      have e := fillAt_set id 0 l 0 hi
      rw [← e]; rfl
    · refine Ev.end (fun k => ?_)
      simp only [laws_toIntS.l0]
      rw [if_neg (by omega), fillAt_all]
  have h0 := key l.length 0 (by omega)
  rw [fillAt_zero, List.map_id] at h0
  refine Ev.congr (fun k => ?_) h0
  unfold laws_toIntS.f
  rw [if_pos (by omega), if_pos (by simp; omega), Int.toNat_natCast]; rfl

/-! ### facts on laws_eqIntS -/
--IMPORT M5
open Go.Proofs.Ytdgbfpnjnfpjaaa.M in
theorem laws_eqIntS.ev (l : List Int) (h : l.length ≤ 1048576) : Ev (fun k => laws_eqIntS.f k l l) true := by
  have key : ∀ d i, i + d = l.length → Ev (fun k => laws_eqIntS.l0 k l l (i : Int)) true := by
    refine Ev.count (fun k i => laws_eqIntS.l0 k l l (i : Int)) l.length _ ?_ ?_
    · intro i hi hn
      refine Ev.step (fun k => ?_) hn
      simp only [laws_eqIntS.l0, if_true]
      rw [if_pos (by omega), if_pos (by omega), if_pos (by omega), w64 (by omega) (by omega)]; rfl
    · refine Ev.end (fun k => ?_)
      simp only [laws_eqIntS.l0]
      rw [if_neg (by omega)]
  refine Ev.congr (fun k => ?_) (key l.length 0 (by omega))
  unfold laws_eqIntS.f
  rw [if_pos rfl]; rfl

/-! ### facts on spec_l1In -/
theorem spec_l1In.ev (a b c : Int) : spec_l1In.f a b c = some (decide (b ≤ a ∧ a ≤ c)) := by
  unfold spec_l1In.f
  by_cases h : b ≤ a
  · rw [if_pos h]; simp [h]
  · rw [if_neg h]; simp [h]

/-! ### facts on spec_RankMod2 -/
--IMPORT M5
open Go.Proofs.Ytdgbfpnjnfpjaaa.M in
theorem spec_RankMod2.inner {l : List Int} {g : Nat → Nat} {n i : Nat} {bs : List Nat} (hbs : ∀ b ∈ bs, b < 32) (hlen : bs.length ≤ 5) (hi : i < 5) {c : Nat} (hc : c < 32) {r : Int}
    (he : Ev (fun k => spec_RankMod2.l0 k l (ints (if red bs c > 0 then bs ++ [red bs c] else bs)) ((i + 1 : Nat) : Int)) r) :
    ∀ d j, j + d = bs.length → Ev (fun k => spec_RankMod2.l1 k l (ints bs) (i : Int) ((red (bs.take j) c : Nat) : Int) (j : Int)) r := by
  refine Ev.count (fun k j => spec_RankMod2.l1 k l (ints bs) (i : Int) ((red (bs.take j) c : Nat) : Int) (j : Int)) bs.length r ?_ ?_
  · intro j hj h
    refine Ev.step (fun k => ?_) h
    have hm : bs.getD j 0 ∈ bs := by rw [List.getD_eq_getElem?_getD, List.getElem?_eq_getElem hj]; exact List.getElem_mem hj
    have h1 := hbs _ hm
    have h2 : red (bs.take j) c < 32 := red_lt (fun b hb => hbs b (List.mem_of_mem_take hb)) hc
    simp only [spec_RankMod2.l1]
    rw [if_pos (by rw [ints_length]; omega), if_pos (by omega), rd_ints, xor_nat (by omega) (by omega), mn_nat, up1 (by omega), take_more bs 0 hj, red_append]
  · refine Ev.step (fun k => ?_) he
    simp only [spec_RankMod2.l1]
    rw [if_neg (by rw [ints_length]; omega), List.take_length]
    by_cases hr : red bs c > 0
    · rw [if_pos (by omega), if_pos (by rw [ints_length]; omega), if_pos hr, up1 (by omega), ints_append]
    · rw [if_neg (by omega), if_neg hr, up1 (by omega)]
open Go.Proofs.Ytdgbfpnjnfpjaaa.M in
theorem spec_RankMod2.ev {l : List Int} {n : Nat} (hn : l.length = n) (h5 : n ≤ 5) (hl : ∀ j, j < n → cols l j < 32 ∧ l.getD j 0 = ((cols l j : Nat) : Int)) :
    Ev (fun k => spec_RankMod2.f k l) (((basis (cols l) n).length : Nat) : Int) := by
  subst hn
  have hb : ∀ i, i ≤ l.length → ∀ b ∈ basis (cols l) i, b < 32 := by
    intro i
    induction i with
    | zero => intro _ b hb; simp [basis] at hb
    | succ i ih =>
      intro hi b hb
      rw [basis] at hb
      have ih' := ih (by omega)
      split at hb
      · rcases List.mem_append.mp hb with h | h
        · exact ih' b h
        · rw [List.mem_singleton.mp h]; exact red_lt ih' (hl i (by omega)).1
      · exact ih' b hb
  have key : ∀ d i, i + d = l.length → Ev (fun k => spec_RankMod2.l0 k l (ints (basis (cols l) i)) (i : Int)) (((basis (cols l) l.length).length : Nat) : Int) := by
    refine Ev.count (fun k i => spec_RankMod2.l0 k l (ints (basis (cols l) i)) (i : Int)) l.length _ ?_ ?_
    · intro i hi h
      obtain ⟨h1, h2⟩ := hl i hi
      have hle := basis_le (cols l) i
      have hin := spec_RankMod2.inner (l := l) (g := cols l) (n := l.length) (i := i) (hb i (by omega)) (by omega) (by omega) h1 h _ 0 (Nat.zero_add _)
      refine Ev.step (f := fun k => spec_RankMod2.j1 k l (ints (basis (cols l) i)) (i : Int) (decide ((i : Int) > 31))) (fun k => ?_) (Ev.step (fun k => ?_) hin)
      · simp only [spec_RankMod2.l0]
        rw [if_pos (by omega), if_pos (by omega), spec_l1In.ev, rd_nat, h2, decide_eq_true (by omega)]
        simp only [Option.bind_some, if_true]
      · simp only [spec_RankMod2.j1]
        rw [decide_eq_false (by omega), if_neg (by decide), if_pos (by omega), if_pos (by omega), rd_nat, h2]; rfl
    · refine Ev.end (fun k => ?_)
      simp only [spec_RankMod2.l0]
      rw [if_neg (by omega), ints_length]
  exact key l.length 0 (by omega)

/-! ### facts on spec_IsInvertible -/
--IMPORT M5
open Go.Proofs.Ytdgbfpnjnfpjaaa.M in
theorem spec_IsInvertible.ev (a : Int) (l : List Int) : Ev (fun k => spec_IsInvertible.f k a l) (invB a l) := by
  unfold invB
  by_cases hb : 0 ≤ a ∧ a ≤ 5
  · obtain ⟨n, rfl⟩ := nat_of hb.1
    have hn : n ≤ 5 := by omega
    have h32 := pow_le_5 hn
    have h1 := Nat.two_pow_pos n
    rw [decide_eq_true hb, Bool.true_and, Int.toNat_natCast]
    by_cases hl : (l.length : Int) = (n : Int)
    · have hln : l.length = n := by omega
      rw [decide_eq_true hl, Bool.true_and]
      have rest : Ev (fun k => spec_IsInvertible.l0 k (n : Int) l 0) (l.all (fun c => decide (0 ≤ c ∧ c < ((2 ^ n : Nat) : Int))) && indB (cols l) n) := by
        have rng : wrap64 (((2 ^ n : Nat) : Int) - 1) = ((2 ^ n : Nat) : Int) - 1 := w64 (by omega) (by omega)
        have step : ∀ i, i < n → ∀ q, decide (0 ≤ l.getD i 0 ∧ l.getD i 0 < ((2 ^ n : Nat) : Int)) = q → ∀ k, spec_IsInvertible.l0 (k + 1) (n : Int) l (i : Int) = if q = true then spec_IsInvertible.l0 k (n : Int) l ((i + 1 : Nat) : Int) else some false := by
          intro i hi q hq k
          simp only [spec_IsInvertible.l0]
          rw [if_pos (by omega), if_pos (by omega), if_pos (by omega), if_pos (by omega), shl_one (by omega), rng, spec_l1In.ev, rd_nat, up1 (by omega)]
          simp only [Option.bind_some]
          rw [← hq, show decide (0 ≤ l.getD i 0 ∧ l.getD i 0 ≤ ((2 ^ n : Nat) : Int) - 1) = decide (0 ≤ l.getD i 0 ∧ l.getD i 0 < ((2 ^ n : Nat) : Int)) from decide_eq_decide.mpr (by omega)]
        cases ha : l.all (fun c => decide (0 ≤ c ∧ c < ((2 ^ n : Nat) : Int))) with
        | true =>
          rw [Bool.true_and]
          have hc : ∀ j, j < n → cols l j < 32 ∧ l.getD j 0 = ((cols l j : Nat) : Int) := fun j hj => by
            obtain ⟨h2, h3⟩ := cols_of ha (show j < l.length by omega)
            exact ⟨by omega, h3⟩
          have e : indB (cols l) n = ((((basis (cols l) n).length : Nat) : Int) == (n : Int)) := by
            rw [Bool.eq_iff_iff, indB_iff, ← basis_iff (fun j hj => (hc j hj).1), beq_iff_eq]
            exact ⟨fun h => by rw [h], fun h => by exact_mod_cast h⟩
          rw [e]
          have key : ∀ d i, i + d = n → Ev (fun k => spec_IsInvertible.l0 k (n : Int) l (i : Int)) ((((basis (cols l) n).length : Nat) : Int) == (n : Int)) := by
            refine Ev.count (fun k i => spec_IsInvertible.l0 k (n : Int) l (i : Int)) n _ ?_ ?_
            · intro i hi h
              exact Ev.step (fun k => by rw [step i hi true (all_true_at ha (show i < l.length by omega)) k, if_pos rfl]) h
            · have hr := spec_RankMod2.ev hln hn hc
              generalize (((basis (cols l) n).length : Nat) : Int) = R at hr ⊢
              refine Ev.step (f := fun k => (spec_RankMod2.f k l).bind fun t => some (t == (n : Int))) (fun k => ?_) (Ev.bind hr (Ev.now _))
              simp only [spec_IsInvertible.l0]
              rw [if_neg (by omega)]
          exact key n 0 (by omega)
        | false =>
          rw [Bool.false_and]
          obtain ⟨j, hj, hf⟩ := all_false_at ha
          exact Ev.bad (fun k i => spec_IsInvertible.l0 k (n : Int) l (i : Int)) n false (fun i => decide (0 ≤ l.getD i 0 ∧ l.getD i 0 < ((2 ^ n : Nat) : Int)))
            (fun i hi h he => Ev.step (fun k => by rw [step i hi true h k, if_pos rfl]) he)
            (fun i hi h => Ev.end (fun k => by rw [step i hi false h k, if_neg (by decide)])) n 0 (by omega) ⟨j, by omega, by omega, hf⟩
      generalize (l.all (fun c => decide (0 ≤ c ∧ c < ((2 ^ n : Nat) : Int))) && indB (cols l) n) = R at rest ⊢
      refine Ev.congr (f := fun k => spec_IsInvertible.j0 k (n : Int) l ((l.length : Int) != (n : Int))) (fun k => ?_) (Ev.step (fun k => ?_) rest)
      · unfold spec_IsInvertible.f
        rw [spec_l1In.ev, decide_eq_true (by omega)]
        simp only [Option.bind_some, if_true]
      · simp only [spec_IsInvertible.j0]
        rw [if_neg (by simp [hl])]
    · rw [decide_eq_false hl, Bool.false_and]
      refine Ev.congr (f := fun k => spec_IsInvertible.j0 k (n : Int) l ((l.length : Int) != (n : Int))) (fun k => ?_) (Ev.end (fun k => ?_))
      · unfold spec_IsInvertible.f
        rw [spec_l1In.ev, decide_eq_true (by omega)]
        simp only [Option.bind_some, if_true]
      · simp only [spec_IsInvertible.j0]
        rw [if_pos (by simp; omega)]
  · rw [decide_eq_false hb, Bool.false_and]
    refine Ev.congr (f := fun k => spec_IsInvertible.j0 k a l true) (fun k => ?_) (Ev.end (fun k => ?_))
    · unfold spec_IsInvertible.f
      rw [spec_l1In.ev, decide_eq_false (by omega)]
      simp only [Option.bind_some, Bool.false_eq_true, if_false]
    · simp only [spec_IsInvertible.j0, if_true]

/-! ### facts on spec_l27Apply -/
--IMPORT M5
open Go.Proofs.Ytdgbfpnjnfpjaaa.M in
theorem spec_l27Apply.ev {l : List Int} {n x : Nat} (hn : l.length = n) (h5 : n ≤ 5) (hl : ∀ j, j < n → cols l j < 32 ∧ l.getD j 0 = ((cols l j : Nat) : Int)) (hx : x < 2 ^ 63) :
    Ev (fun k => spec_l27Apply.f k l (x : Int)) ((img (cols l) x n : Nat) : Int) := by
  subst hn
  have key : ∀ d i, i + d = l.length → Ev (fun k => spec_l27Apply.l0 k l (x : Int) ((img (cols l) x i : Nat) : Int) (i : Int)) ((img (cols l) x l.length : Nat) : Int) := by
    refine Ev.count (fun k i => spec_l27Apply.l0 k l (x : Int) ((img (cols l) x i : Nat) : Int) (i : Int)) l.length _ ?_ ?_
    · intro i hi h
      refine Ev.step (fun k => ?_) h
      obtain ⟨h1, h2⟩ := hl i hi
      have h3 : img (cols l) x i < 2 ^ 5 := img_lt x (fun j hj => (hl j (by omega)).1)
      simp only [spec_l27Apply.l0]
      rw [if_pos (by omega), if_pos (by omega), bit_nat hx (by omega), rd_nat, h2, up1 (by omega), xor_nat (by omega) (by omega)]
      rw [img]
      cases x.testBit i <;> simp
    · refine Ev.end (fun k => ?_)
      simp only [spec_l27Apply.l0]
      rw [if_neg (by omega)]
  exact key l.length 0 (by omega)

/-! ### facts on spec_ComposeMaps -/
--IMPORT M5
open Go.Proofs.Ytdgbfpnjnfpjaaa.M in
theorem spec_ComposeMaps.ev (a : Int) (l1 l2 : List Int) : Ev (fun k => spec_ComposeMaps.f k a l1 l2) (compL a l1 l2) := by
  unfold compL
  obtain ⟨K1, h1⟩ : ∃ K, ∀ k, K ≤ k → spec_IsInvertible.f k a l1 = some (invB a l1) := spec_IsInvertible.ev a l1
  obtain ⟨K2, h2⟩ : ∃ K, ∀ k, K ≤ k → spec_IsInvertible.f k a l2 = some (invB a l2) := spec_IsInvertible.ev a l2
  have hf : ∀ k, K1 + K2 ≤ k → spec_ComposeMaps.f (k + 1) a l1 l2 = if (invB a l1 && invB a l2) = true then spec_ComposeMaps.l0 k a l1 l2 [] 0 else some ([], false) := fun k hk => by
    simp only [spec_ComposeMaps.f, Option.bind_some]
    rw [h1 _ (by omega), h2 _ (by omega)]
    simp only [Option.bind_some]
    cases invB a l1 <;> cases invB a l2 <;> simp [spec_ComposeMaps.j0]
  by_cases hi : (invB a l1 && invB a l2) = true
  · rw [if_pos hi]
    rw [Bool.and_eq_true] at hi
    obtain ⟨hi1, hi2⟩ := hi
    obtain ⟨n, rfl, hn, hl, hc, _⟩ := invB_open hi1
    obtain ⟨n', e, hn', hl', hc', _⟩ := invB_open hi2
    obtain rfl : n = n' := by omega
    have hp := pow_le_5 hn
    rw [Int.toNat_natCast]
    have key : ∀ d i, i + d = n → Ev (fun k => spec_ComposeMaps.l0 k (n : Int) l1 l2 ((l2.take i).map (fun c => ((img (cols l1) c.toNat n : Nat) : Int))) (i : Int)) (l2.map (fun c => ((img (cols l1) c.toNat n : Nat) : Int)), true) := by
      refine Ev.count (fun k i => spec_ComposeMaps.l0 k (n : Int) l1 l2 ((l2.take i).map (fun c => ((img (cols l1) c.toNat n : Nat) : Int))) (i : Int)) n _ ?_ ?_
      · intro i hi h
        obtain ⟨c1, c2⟩ := hc' i hi
        have h2 := spec_l27Apply.ev (x := cols l2 i) hl hn (cols32 hn hc) (by omega)
        refine Ev.step (f := fun k => (spec_l27Apply.f k l1 ((cols l2 i : Nat) : Int)).bind fun t => spec_ComposeMaps.l0 k (n : Int) l1 l2 ((l2.take i).map (fun c => ((img (cols l1) c.toNat n : Nat) : Int)) ++ [t]) ((i + 1 : Nat) : Int)) (fun k => ?_) (Ev.bind h2 ?_)
        · simp only [spec_ComposeMaps.l0]
          rw [if_pos (by omega), if_pos (by omega), if_pos (by omega), rd_nat, c2]
          congr 1; funext t
          rw [if_pos (by simp; omega), up1 (by omega)]
        · refine Ev.congr (fun k => ?_) h
          rw [take_more l2 0 (show i < l2.length by omega), List.map_append, c2]; rfl
      · refine Ev.end (fun k => ?_)
        simp only [spec_ComposeMaps.l0]
        rw [if_neg (by omega), List.take_of_length_le (by omega)]
    obtain ⟨K3, h3⟩ := key n 0 (by omega)
    refine Ev.since (K1 + K2 + K3 + 1) fun k hk => ?_
    obtain ⟨m, rfl⟩ : ∃ m, k = m + 1 := ⟨k - 1, by omega⟩
    have := h3 m (by omega)
    simp only [] at this
    rw [hf m (by omega), hi1, hi2]
    simpa using this
  · rw [if_neg hi]
    refine Ev.since (K1 + K2 + 1) fun k hk => ?_
    obtain ⟨m, rfl⟩ : ∃ m, k = m + 1 := ⟨k - 1, by omega⟩
    skip
    rw [hf m (by omega), if_neg hi]

/-! ### facts on impl_isBits -/
theorem impl_isBits.ev (a : Int) : impl_isBits.f a = some (decide (0 ≤ a ∧ a ≤ 5)) := by
  unfold impl_isBits.f
  by_cases h : 0 ≤ a
  · rw [if_pos h]; simp [h]
  · rw [if_neg h]; simp [h]

/-! ### facts on impl_ComposeMaps -/
--IMPORT M5
open Go.Proofs.Ytdgbfpnjnfpjaaa.M in
theorem impl_ComposeMaps.ev (a : Int) (l1 l2 : List Int) : Ev (fun k => impl_ComposeMaps.f k a l1 l2) (compL a l1 l2) := by
  unfold compL
  have h1 : ∀ l, impl_IsInvertible.f a l = some (invB a l) := fun l => rfl
  have hf : ∀ k, impl_ComposeMaps.f (k + 1) a l1 l2 = if (invB a l1 && invB a l2) = true then (if 0 ≤ a then (if (a : Int).toNat ≤ 35184372088832 then impl_ComposeMaps.l0 k l1 (List.replicate (a : Int).toNat 0) l2 (l2.length : Int) 0 else none) else none) else some ([], false) := fun k => by
    simp only [impl_ComposeMaps.f, Option.bind_some]
    rw [h1, h1]
    simp only [Option.bind_some]
    cases invB a l1 <;> cases invB a l2 <;> simp [impl_ComposeMaps.j0]
  by_cases hi : (invB a l1 && invB a l2) = true
  · rw [if_pos hi]
    rw [Bool.and_eq_true] at hi
    obtain ⟨hi1, hi2⟩ := hi
    obtain ⟨n, rfl, hn, hl, hc, _⟩ := invB_open hi1
    obtain ⟨n', e, hn', hl', hc', _⟩ := invB_open hi2
    obtain rfl : n = n' := by omega
    have hp := pow_le_5 hn
    rw [Int.toNat_natCast]
    have key : ∀ d i, i + d = n → Ev (fun k => impl_ComposeMaps.l0 k l1 (fillAt (fun c => ((img (cols l1) c.toNat n : Nat) : Int)) 0 l2 i) l2 (l2.length : Int) (i : Int)) (l2.map (fun c => ((img (cols l1) c.toNat n : Nat) : Int)), true) := by
      refine Ev.count (fun k i => impl_ComposeMaps.l0 k l1 (fillAt (fun c => ((img (cols l1) c.toNat n : Nat) : Int)) 0 l2 i) l2 (l2.length : Int) (i : Int)) n _ ?_ ?_
      · intro i hi h
        obtain ⟨c1, c2⟩ := hc' i hi
        have h2 := impl_IsInvertible.image_ev (x := cols l2 i) hl hn (cols32 hn hc) (by omega)
        have hlen := fillAt_length (fun c : Int => ((img (cols l1) c.toNat n : Nat) : Int)) 0 l2 (i := i) (by omega)
        refine Ev.step (f := fun k => (impl_image.f k l1 ((cols l2 i : Nat) : Int)).bind fun t => impl_ComposeMaps.l0 k l1 ((fillAt (fun c => ((img (cols l1) c.toNat n : Nat) : Int)) 0 l2 i).set i t) l2 (l2.length : Int) ((i + 1 : Nat) : Int)) (fun k => ?_) (Ev.bind h2 ?_)
        · simp only [impl_ComposeMaps.l0]
          rw [if_pos (by omega), if_pos (by omega), if_pos (by omega), rd_nat, c2]
          congr 1; funext t
          rw [if_pos (by rw [hlen]; omega), up1 (by omega), Int.toNat_natCast]
        · refine Ev.congr (fun k => ?_) h
          have := fillAt_set (fun c : Int => ((img (cols l1) c.toNat n : Nat) : Int)) 0 l2 0 (show i < l2.length by omega)
          rw [c2] at this
          rw [← this]; rfl
      · refine Ev.end (fun k => ?_)
        simp only [impl_ComposeMaps.l0]
        have e1 := fillAt_all (fun c : Int => ((img (cols l1) c.toNat n : Nat) : Int)) 0 l2
        rw [hl'] at e1
        rw [if_neg (by omega), e1]
    obtain ⟨K3, h3⟩ := key n 0 (by omega)
    refine Ev.since (K3 + 1) fun k hk => ?_
    obtain ⟨m, rfl⟩ : ∃ m, k = m + 1 := ⟨k - 1, by omega⟩
    have := h3 m (by omega)
    simp only [fillAt_zero, hl'] at this ⊢
    rw [hf m, hi1, hi2, if_pos (by rfl), if_pos (by omega), if_pos (by rw [Int.toNat_natCast]; omega), Int.toNat_natCast, hl']
    exact this
  · rw [if_neg hi]
    refine Ev.since (1) fun k hk => ?_
    obtain ⟨m, rfl⟩ : ∃ m, k = m + 1 := ⟨k - 1, by omega⟩
    skip
    rw [hf m, if_neg hi]

/-! ### facts on laws_markIntS -/
--IMPORT M5
open Go.Proofs.Ytdgbfpnjnfpjaaa.M in
theorem laws_markIntS.ev (l : List Int) (a : Int) (h : l.length ≤ 1048576) (ha : 0 ≤ a) (hb : a ≤ 1000000000000) : Ev (fun k => laws_markIntS.f k l a) (a + (l.length : Int), upTo a l.length) := by
  have key : ∀ d i, i + d = l.length → Ev (fun k => laws_markIntS.l0 k (upTo a i ++ l.drop i) (a + (i : Int)) (i : Int)) (a + (l.length : Int), upTo a l.length) := by
    refine Ev.count (fun k i => laws_markIntS.l0 k (upTo a i ++ l.drop i) (a + (i : Int)) (i : Int)) l.length _ ?_ ?_
    · intro i hi hn
      refine Ev.step (fun k => ?_) hn
      simp only [laws_markIntS.l0]
      rw [if_pos (by rw [upTo_len (by omega)]; omega), if_pos (by omega), Int.toNat_natCast, upTo_set hi, w64 (by omega) (by omega), w64 (by omega) (by omega)]
      congr 1; omega
    · refine Ev.end (fun k => ?_)
      simp only [laws_markIntS.l0]
      rw [upTo_all, if_neg (by rw [upTo_length]; omega)]
  have h0 := key l.length 0 (by omega)
  rw [upTo_zero] at h0
  refine Ev.congr (fun k => ?_) h0
  unfold laws_markIntS.f
  simp

/-! ### facts on laws_heldIntS -/
--IMPORT M5
open Go.Proofs.Ytdgbfpnjnfpjaaa.M in
theorem laws_heldIntS.ev (n : Nat) (a : Int) (h : n ≤ 1048576) (ha : 0 ≤ a) (hb : a ≤ 1000000000000) : Ev (fun k => laws_heldIntS.f k (upTo a n) a) (a + (n : Int)) := by
  have key : ∀ d i, i + d = n → Ev (fun k => laws_heldIntS.l0 k (upTo a n) (a + (i : Int)) (i : Int)) (a + (n : Int)) := by
    refine Ev.count (fun k i => laws_heldIntS.l0 k (upTo a n) (a + (i : Int)) (i : Int)) n _ ?_ ?_
    · intro i hi hn
      refine Ev.step (fun k => ?_) hn
      simp only [laws_heldIntS.l0]
      rw [if_pos (by rw [upTo_length]; omega), if_pos (by omega), upTo_rd hi, if_pos rfl, w64 (by omega) (by omega), w64 (by omega) (by omega)]
      congr 1; omega
    · refine Ev.end (fun k => ?_)
      simp only [laws_heldIntS.l0]
      rw [if_neg (by rw [upTo_length]; omega)]
  refine Ev.congr (fun k => ?_) (key n 0 (by omega))
  unfold laws_heldIntS.f
  simp

/-! ### facts on laws_FnExactComposeMaps -/
--IMPORT M5
open Go.Proofs.Ytdgbfpnjnfpjaaa.M in
theorem laws_FnExactComposeMaps.pure_ : laws_FnExactComposeMaps.Pure := by
  intro a l1 l2 _ _ _ _ _ _ _
  by_cases hl1 : l1.length ≤ 1048576
  · by_cases hl2 : l2.length ≤ 1048576
    · have hr : (compL a l1 l2).1.length ≤ 1048576 := by
        unfold compL; split
        · rw [List.length_map]; exact hl2
        · simp
      obtain ⟨K1, h1⟩ : ∃ K, ∀ k, K ≤ k → laws_toIntS.f k l1 = some l1 := laws_toIntS.ev l1 hl1
      obtain ⟨K2, h2⟩ : ∃ K, ∀ k, K ≤ k → laws_toIntS.f k l2 = some l2 := laws_toIntS.ev l2 hl2
      obtain ⟨K3, h3⟩ : ∃ K, ∀ k, K ≤ k → laws_eqIntS.f k l1 l1 = some true := laws_eqIntS.ev l1 hl1
      obtain ⟨K4, h4⟩ : ∃ K, ∀ k, K ≤ k → laws_eqIntS.f k l2 l2 = some true := laws_eqIntS.ev l2 hl2
      obtain ⟨K5, h5⟩ : ∃ K, ∀ k, K ≤ k → spec_ComposeMaps.f k a l1 l2 = some (compL a l1 l2) := spec_ComposeMaps.ev a l1 l2
      obtain ⟨K6, h6⟩ : ∃ K, ∀ k, K ≤ k → impl_ComposeMaps.f k a l1 l2 = some (compL a l1 l2) := impl_ComposeMaps.ev a l1 l2
      generalize compL a l1 l2 = rb at *
      obtain ⟨r, b⟩ := rb
      simp only [] at hr
      obtain ⟨K7, h7⟩ : ∃ K, ∀ k, K ≤ k → laws_eqIntS.f k r r = some true := laws_eqIntS.ev r hr
      obtain ⟨K8, h8⟩ : ∃ K, ∀ k, K ≤ k → laws_markIntS.f k l1 1 = some (1 + (l1.length : Int), upTo 1 l1.length) := laws_markIntS.ev l1 1 hl1 (by decide) (by decide)
      obtain ⟨K9, h9⟩ : ∃ K, ∀ k, K ≤ k → laws_markIntS.f k l2 (1 + (l1.length : Int)) = some (1 + (l1.length : Int) + (l2.length : Int), upTo (1 + (l1.length : Int)) l2.length) := laws_markIntS.ev l2 (1 + (l1.length : Int)) hl2 (by omega) (by omega)
      obtain ⟨K10, h10⟩ : ∃ K, ∀ k, K ≤ k → laws_markIntS.f k r 1 = some (1 + (r.length : Int), upTo 1 r.length) := laws_markIntS.ev r 1 hr (by decide) (by decide)
      obtain ⟨K11, h11⟩ : ∃ K, ∀ k, K ≤ k → laws_heldIntS.f k (upTo 1 r.length) 1 = some (1 + (r.length : Int)) := laws_heldIntS.ev r.length 1 hr (by decide) (by decide)
      have n1 : ¬ ((l1.length : Int) > 1048576) := by omega
      have n2 : ¬ ((l2.length : Int) > 1048576) := by omega
      have n3 : ¬ (1 + (l1.length : Int) + (l2.length : Int) < 0) := by omega
      have n4 : ¬ (1 + (r.length : Int) < 0) := by omega
      refine ⟨K1 + K2 + K3 + K4 + K5 + K6 + K7 + K8 + K9 + K10 + K11 + 3, ?_⟩
      simp (disch := omega) only [laws_FnExactComposeMaps.f, h1, h2, h3, h4, h5, h6, h7, h8, h9, h10, h11, n1, n2, n3, n4, ↓reduceIte, Option.bind_some, bne_self_eq_false, Bool.false_eq_true]
      simp (disch := omega) only [laws_FnExactComposeMaps.j0, h1, h2, h3, h4, h5, h6, h7, h8, h9, h10, h11, n1, n2, n3, n4, ↓reduceIte, Option.bind_some, bne_self_eq_false, Bool.false_eq_true]
      simp (disch := omega) only [laws_FnExactComposeMaps.j1, h1, h2, h3, h4, h5, h6, h7, h8, h9, h10, h11, n1, n2, n3, n4, ↓reduceIte, Option.bind_some, bne_self_eq_false, Bool.false_eq_true]
      simp (disch := omega) only [laws_FnExactComposeMaps.j2, h1, h2, h3, h4, h5, h6, h7, h8, h9, h10, h11, n1, n2, n3, n4, ↓reduceIte, Option.bind_some, bne_self_eq_false, Bool.false_eq_true]
    · exact ⟨0, by unfold laws_FnExactComposeMaps.f; rw [if_neg (by omega), if_pos (by omega)]⟩
  · exact ⟨0, by unfold laws_FnExactComposeMaps.f; rw [if_pos (by omega)]⟩

end Go.Proofs.Ytdgbfpnjnfpjaaa.Print
