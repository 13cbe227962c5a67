/- Functions of the given program as plain Lean functions, with proofs that their calls compute them, or lemmas on these. Laid by a program of this repo for the seat Ytdgbfpnjnfpjaaa; Lean checks it. -/
import Derived.Test.YtdgbfpnjnfpjaaaKExactMapInput0
import Derived.Test.YtdgbfpnjnfpjaaaKExactMapInput1
import Derived.Test.YtdgbfpnjnfpjaaaKExactMapInput4
import Derived.Test.YtdgbfpnjnfpjaaaKExactMapInput5
import Derived.Test.YtdgbfpnjnfpjaaaKExactMapInput6
import Derived.Test.YtdgbfpnjnfpjaaaM5
namespace Go.Proofs.Ytdgbfpnjnfpjaaa.Print
open Go.RowKit Go.Proofs.YtdgbfpnjnfpjaaaW.PrintWords Go.Proofs.YtdgbfpnjnfpjaaaW.PrintLast Go.Proofs.YtdgbfpnjnfpjaaaW.PrintMore
attribute [local go_sem] max2_int min2_int max_two min_two max_three min_three max_four min_four   -- for this text's walks alone
set_option linter.unusedVariables false
set_option linter.unusedSimpArgs false

/-! ### facts on laws_toIntS -/
--IMPORT M5
open Go.Proofs.Ytdgbfpnjnfpjaaa.M in
theorem laws_toIntS.ev (l : List Int) (h : l.length ≤ 1048576) : Ev (fun k => laws_toIntS.f k l) l := by
  have key : ∀ d i, i + d = l.length → Ev (fun k => laws_toIntS.l0 k l (fillAt id 0 l i) (i : Int)) (l.map id) := by
    refine Ev.count (fun k i => laws_toIntS.l0 k l (fillAt id 0 l i) (i : Int)) l.length _ ?_ ?_
    · intro i hi hn
      refine Ev.step (fun k => ?_) hn
      have hl := fillAt_length id 0 l (i := i) (by omega)
      simp only [laws_toIntS.l0]
      rw [if_pos (by omega), if_pos (by omega), if_pos (by rw [hl]; omega), w64 (by omega) (by omega), rd_nat, Int.toNat_natCast]
      have e := fillAt_set id 0 l 0 hi
      rw [← e]; rfl
    · refine Ev.end (fun k => ?_)
      simp only [laws_toIntS.l0]
      rw [if_neg (by omega), fillAt_all]
  have h0 := key l.length 0 (by omega)
  rw [fillAt_zero, List.map_id] at h0
  refine Ev.congr (fun k => ?_) h0
  unfold laws_toIntS.f
  rw [if_pos (by omega), if_pos (by simp; omega), Int.toNat_natCast]; rfl

/-! ### facts on laws_eqIntS -/
--IMPORT M5
open Go.Proofs.Ytdgbfpnjnfpjaaa.M in
theorem laws_eqIntS.ev (l : List Int) (h : l.length ≤ 1048576) : Ev (fun k => laws_eqIntS.f k l l) true := by
  have key : ∀ d i, i + d = l.length → Ev (fun k => laws_eqIntS.l0 k l l (i : Int)) true := by
    refine Ev.count (fun k i => laws_eqIntS.l0 k l l (i : Int)) l.length _ ?_ ?_
    · intro i hi hn
      refine Ev.step (fun k => ?_) hn
      simp only [laws_eqIntS.l0, if_true]
      rw [if_pos (by omega), if_pos (by omega), if_pos (by omega), w64 (by omega) (by omega)]; rfl
    · refine Ev.end (fun k => ?_)
      simp only [laws_eqIntS.l0]
      rw [if_neg (by omega)]
  refine Ev.congr (fun k => ?_) (key l.length 0 (by omega))
  unfold laws_eqIntS.f
  rw [if_pos rfl]; rfl

/-! ### facts on spec_l1In -/
theorem spec_l1In.ev (a b c : Int) : spec_l1In.f a b c = some (decide (b ≤ a ∧ a ≤ c)) := by
  unfold spec_l1In.f
  by_cases h : b ≤ a
  · rw [if_pos h]; simp [h]
  · rw [if_neg h]; simp [h]

/-! ### facts on spec_RankMod2 -/
--IMPORT M5
open Go.Proofs.Ytdgbfpnjnfpjaaa.M in
theorem spec_RankMod2.inner {l : List Int} {g : Nat → Nat} {n i : Nat} {bs : List Nat} (hbs : ∀ b ∈ bs, b < 32) (hlen : bs.length ≤ 5) (hi : i < 5) {c : Nat} (hc : c < 32) {r : Int}
    (he : Ev (fun k => spec_RankMod2.l0 k l (ints (if red bs c > 0 then bs ++ [red bs c] else bs)) ((i + 1 : Nat) : Int)) r) :
    ∀ d j, j + d = bs.length → Ev (fun k => spec_RankMod2.l1 k l (ints bs) (i : Int) ((red (bs.take j) c : Nat) : Int) (j : Int)) r := by
  refine Ev.count (fun k j => spec_RankMod2.l1 k l (ints bs) (i : Int) ((red (bs.take j) c : Nat) : Int) (j : Int)) bs.length r ?_ ?_
  · intro j hj h
    refine Ev.step (fun k => ?_) h
    have hm : bs.getD j 0 ∈ bs := by rw [List.getD_eq_getElem?_getD, List.getElem?_eq_getElem hj]; exact List.getElem_mem hj
    have h1 := hbs _ hm
    have h2 : red (bs.take j) c < 32 := red_lt (fun b hb => hbs b (List.mem_of_mem_take hb)) hc
    simp only [spec_RankMod2.l1]
    rw [if_pos (by rw [ints_length]; omega), if_pos (by omega), rd_ints, xor_nat (by omega) (by omega), mn_nat, up1 (by omega), take_more bs 0 hj, red_append]
  · refine Ev.step (fun k => ?_) he
    simp only [spec_RankMod2.l1]
    rw [if_neg (by rw [ints_length]; omega), List.take_length]
    by_cases hr : red bs c > 0
    · rw [if_pos (by omega), if_pos (by rw [ints_length]; omega), if_pos hr, up1 (by omega), ints_append]
    · rw [if_neg (by omega), if_neg hr, up1 (by omega)]
open Go.Proofs.Ytdgbfpnjnfpjaaa.M in
theorem spec_RankMod2.ev {l : List Int} {n : Nat} (hn : l.length = n) (h5 : n ≤ 5) (hl : ∀ j, j < n → cols l j < 32 ∧ l.getD j 0 = ((cols l j : Nat) : Int)) :
    Ev (fun k => spec_RankMod2.f k l) (((basis (cols l) n).length : Nat) : Int) := by
  subst hn
  have hb : ∀ i, i ≤ l.length → ∀ b ∈ basis (cols l) i, b < 32 := by
    intro i
    induction i with
    | zero => intro _ b hb; simp [basis] at hb
    | succ i ih =>
      intro hi b hb
      rw [basis] at hb
      have ih' := ih (by omega)
      split at hb
      · rcases List.mem_append.mp hb with h | h
        · exact ih' b h
        · rw [List.mem_singleton.mp h]; exact red_lt ih' (hl i (by omega)).1
      · exact ih' b hb
  have key : ∀ d i, i + d = l.length → Ev (fun k => spec_RankMod2.l0 k l (ints (basis (cols l) i)) (i : Int)) (((basis (cols l) l.length).length : Nat) : Int) := by
    refine Ev.count (fun k i => spec_RankMod2.l0 k l (ints (basis (cols l) i)) (i : Int)) l.length _ ?_ ?_
    · intro i hi h
      obtain ⟨h1, h2⟩ := hl i hi
      have hle := basis_le (cols l) i
      have hin := spec_RankMod2.inner (l := l) (g := cols l) (n := l.length) (i := i) (hb i (by omega)) (by omega) (by omega) h1 h _ 0 (Nat.zero_add _)
      refine Ev.step (f := fun k => spec_RankMod2.j1 k l (ints (basis (cols l) i)) (i : Int) (decide ((i : Int) > 31))) (fun k => ?_) (Ev.step (fun k => ?_) hin)
      · simp only [spec_RankMod2.l0]
        rw [if_pos (by omega), if_pos (by omega), spec_l1In.ev, rd_nat, h2, decide_eq_true (by omega)]
        simp only [Option.bind_some, if_true]
      · simp only [spec_RankMod2.j1]
        rw [decide_eq_false (by omega), if_neg (by decide), if_pos (by omega), if_pos (by omega), rd_nat, h2]; rfl
    · refine Ev.end (fun k => ?_)
      simp only [spec_RankMod2.l0]
      rw [if_neg (by omega), ints_length]
  exact key l.length 0 (by omega)

/-! ### facts on spec_IsInvertible -/
--IMPORT M5
open Go.Proofs.Ytdgbfpnjnfpjaaa.M in
theorem spec_IsInvertible.ev (a : Int) (l : List Int) : Ev (fun k => spec_IsInvertible.f k a l) (invB a l) := by
  unfold invB
  by_cases hb : 0 ≤ a ∧ a ≤ 5
  · obtain ⟨n, rfl⟩ := nat_of hb.1
    have hn : n ≤ 5 := by omega
    have h32 := pow_le_5 hn
    have h1 := Nat.two_pow_pos n
    rw [decide_eq_true hb, Bool.true_and, Int.toNat_natCast]
    by_cases hl : (l.length : Int) = (n : Int)
    · have hln : l.length = n := by omega
      rw [decide_eq_true hl, Bool.true_and]
      have rest : Ev (fun k => spec_IsInvertible.l0 k (n : Int) l 0) (l.all (fun c => decide (0 ≤ c ∧ c < ((2 ^ n : Nat) : Int))) && indB (cols l) n) := by
        have rng : wrap64 (((2 ^ n : Nat) : Int) - 1) = ((2 ^ n : Nat) : Int) - 1 := w64 (by omega) (by omega)
        have step : ∀ i, i < n → ∀ q, decide (0 ≤ l.getD i 0 ∧ l.getD i 0 < ((2 ^ n : Nat) : Int)) = q → ∀ k, spec_IsInvertible.l0 (k + 1) (n : Int) l (i : Int) = if q = true then spec_IsInvertible.l0 k (n : Int) l ((i + 1 : Nat) : Int) else some false := by
          intro i hi q hq k
          simp only [spec_IsInvertible.l0]
          rw [if_pos (by omega), if_pos (by omega), if_pos (by omega), if_pos (by omega), shl_one (by omega), rng, spec_l1In.ev, rd_nat, up1 (by omega)]
          simp only [Option.bind_some]
          rw [← hq, show decide (0 ≤ l.getD i 0 ∧ l.getD i 0 ≤ ((2 ^ n : Nat) : Int) - 1) = decide (0 ≤ l.getD i 0 ∧ l.getD i 0 < ((2 ^ n : Nat) : Int)) from decide_eq_decide.mpr (by omega)]
        cases ha : l.all (fun c => decide (0 ≤ c ∧ c < ((2 ^ n : Nat) : Int))) with
        | true =>
          rw [Bool.true_and]
          have hc : ∀ j, j < n → cols l j < 32 ∧ l.getD j 0 = ((cols l j : Nat) : Int) := fun j hj => by
            obtain ⟨h2, h3⟩ := cols_of ha (show j < l.length by omega)
            exact ⟨by omega, h3⟩
          have e : indB (cols l) n = ((((basis (cols l) n).length : Nat) : Int) == (n : Int)) := by
            rw [Bool.eq_iff_iff, indB_iff, ← basis_iff (fun j hj => (hc j hj).1), beq_iff_eq]
            exact ⟨fun h => by rw [h], fun h => by exact_mod_cast h⟩
          rw [e]
          have key : ∀ d i, i + d = n → Ev (fun k => spec_IsInvertible.l0 k (n : Int) l (i : Int)) ((((basis (cols l) n).length : Nat) : Int) == (n : Int)) := by
            refine Ev.count (fun k i => spec_IsInvertible.l0 k (n : Int) l (i : Int)) n _ ?_ ?_
            · intro i hi h
              exact Ev.step (fun k => by rw [step i hi true (all_true_at ha (show i < l.length by omega)) k, if_pos rfl]) h
            · have hr := spec_RankMod2.ev hln hn hc
              generalize (((basis (cols l) n).length : Nat) : Int) = R at hr ⊢
              refine Ev.step (f := fun k => (spec_RankMod2.f k l).bind fun t => some (t == (n : Int))) (fun k => ?_) (Ev.bind hr (Ev.now _))
              simp only [spec_IsInvertible.l0]
              rw [if_neg (by omega)]
          exact key n 0 (by omega)
        | false =>
          rw [Bool.false_and]
          obtain ⟨j, hj, hf⟩ := all_false_at ha
          exact Ev.bad (fun k i => spec_IsInvertible.l0 k (n : Int) l (i : Int)) n false (fun i => decide (0 ≤ l.getD i 0 ∧ l.getD i 0 < ((2 ^ n : Nat) : Int)))
            (fun i hi h he => Ev.step (fun k => by rw [step i hi true h k, if_pos rfl]) he)
            (fun i hi h => Ev.end (fun k => by rw [step i hi false h k, if_neg (by decide)])) n 0 (by omega) ⟨j, by omega, by omega, hf⟩
      generalize (l.all (fun c => decide (0 ≤ c ∧ c < ((2 ^ n : Nat) : Int))) && indB (cols l) n) = R at rest ⊢
      refine Ev.congr (f := fun k => spec_IsInvertible.j0 k (n : Int) l ((l.length : Int) != (n : Int))) (fun k => ?_) (Ev.step (fun k => ?_) rest)
      · unfold spec_IsInvertible.f
        rw [spec_l1In.ev, decide_eq_true (by omega)]
        simp only [Option.bind_some, if_true]
      · simp only [spec_IsInvertible.j0]
        rw [if_neg (by simp [hl])]
    · rw [decide_eq_false hl, Bool.false_and]
      refine Ev.congr (f := fun k => spec_IsInvertible.j0 k (n : Int) l ((l.length : Int) != (n : Int))) (fun k => ?_) (Ev.end (fun k => ?_))
      · unfold spec_IsInvertible.f
        rw [spec_l1In.ev, decide_eq_true (by omega)]
        simp only [Option.bind_some, if_true]
      · simp only [spec_IsInvertible.j0]
        rw [if_pos (by simp; omega)]
  · rw [decide_eq_false hb, Bool.false_and]
    refine Ev.congr (f := fun k => spec_IsInvertible.j0 k a l true) (fun k => ?_) (Ev.end (fun k => ?_))
    · unfold spec_IsInvertible.f
      rw [spec_l1In.ev, decide_eq_false (by omega)]
      simp only [Option.bind_some, Bool.false_eq_true, if_false]
    · simp only [spec_IsInvertible.j0, if_true]

/-! ### facts on spec_l27Apply -/
--IMPORT M5
open Go.Proofs.Ytdgbfpnjnfpjaaa.M in
theorem spec_l27Apply.ev {l : List Int} {n x : Nat} (hn : l.length = n) (h5 : n ≤ 5) (hl : ∀ j, j < n → cols l j < 32 ∧ l.getD j 0 = ((cols l j : Nat) : Int)) (hx : x < 2 ^ 63) :
    Ev (fun k => spec_l27Apply.f k l (x : Int)) ((img (cols l) x n : Nat) : Int) := by
  subst hn
  have key : ∀ d i, i + d = l.length → Ev (fun k => spec_l27Apply.l0 k l (x : Int) ((img (cols l) x i : Nat) : Int) (i : Int)) ((img (cols l) x l.length : Nat) : Int) := by
    refine Ev.count (fun k i => spec_l27Apply.l0 k l (x : Int) ((img (cols l) x i : Nat) : Int) (i : Int)) l.length _ ?_ ?_
    · intro i hi h
      refine Ev.step (fun k => ?_) h
      obtain ⟨h1, h2⟩ := hl i hi
      have h3 : img (cols l) x i < 2 ^ 5 := img_lt x (fun j hj => (hl j (by omega)).1)
      simp only [spec_l27Apply.l0]
      rw [if_pos (by omega), if_pos (by omega), bit_nat hx (by omega), rd_nat, h2, up1 (by omega), xor_nat (by omega) (by omega)]
      rw [img]
      cases x.testBit i <;> simp
    · refine Ev.end (fun k => ?_)
      simp only [spec_l27Apply.l0]
      rw [if_neg (by omega)]
  exact key l.length 0 (by omega)

/-! ### facts on spec_MapInput -/
--IMPORT M5
open Go.Proofs.Ytdgbfpnjnfpjaaa.M in
theorem spec_MapInput.ev (a : Int) (l : List Int) (s x : Int) : Ev (fun k => spec_MapInput.f k a l s x) (mapI a l s x) := by
  unfold mapI
  obtain ⟨K1, h1⟩ : ∃ K, ∀ k, K ≤ k → spec_IsInvertible.f k a l = some (invB a l) := spec_IsInvertible.ev a l
  cases hi : invB a l with
  | false =>
    rw [hi] at h1
    refine Ev.since (K1) fun k hk => ?_
    simp only [spec_MapInput.f, h1 k hk, Option.bind_some, Bool.false_eq_true, if_false, Bool.false_and]
  | true =>
    rw [hi] at h1
    obtain ⟨n, rfl, hn, hl, hc, _⟩ := invB_open hi
    have hp := pow_le_5 hn
    have hp1 := Nat.two_pow_pos n
    have rng : wrap64 (((2 ^ n : Nat) : Int) - 1) = ((2 ^ n : Nat) : Int) - 1 := w64 (by omega) (by omega)
    have e : ∀ y : Int, spec_l1In.f y 0 (((2 ^ n : Nat) : Int) - 1) = some (inR n y) := fun y => by
      rw [spec_l1In.ev]; unfold inR; congr 1; exact decide_eq_decide.mpr (by omega)
    have hf : ∀ k, K1 ≤ k → spec_MapInput.f k (n : Int) l s x = if inR n s = true then if inR n x = true then (spec_l27Apply.f k l x).bind fun t => some (Go.bits .xor .i64 t s) else some (-1) else some (-1) := fun k hk => by
      simp only [spec_MapInput.f]
      rw [h1 k hk]
      simp only [Option.bind_some, if_true]
      rw [if_pos (Int.natCast_nonneg n), shl_one (by omega), rng, e, e]
      simp only [Option.bind_some]
    rw [Int.toNat_natCast, Bool.true_and]
    cases hs : inR n s with
    | false => exact Ev.since (K1) fun k hk => by rw [hf k hk, hs]; rfl
    | true =>
      cases hx : inR n x with
      | false => exact Ev.since (K1) fun k hk => by rw [hf k hk, hs, hx]; rfl
      | true =>
        obtain ⟨s, rfl, hs'⟩ := inR_nat hs
        obtain ⟨x, rfl, hx'⟩ := inR_nat hx
        have h2 := spec_l27Apply.ev (x := x) hl hn (cols32 hn hc) (by omega)
        have h3 : img (cols l) x n < 2 ^ n := img_lt x (fun j hj => (hc j hj).1)
        obtain ⟨K2, h2⟩ := h2
        refine Ev.since (K1 + K2) fun k hk => ?_
        have h2' : spec_l27Apply.f k l (x : Int) = some ((img (cols l) x n : Nat) : Int) := h2 k (by omega)
        rw [hf k (by omega), hs, hx, h2']
        simp only [Option.bind_some, if_true, Bool.and_self]
        rw [xor_nat (by omega) (by omega), Int.toNat_natCast, Int.toNat_natCast]

/-! ### facts on impl_isBits -/
theorem impl_isBits.ev (a : Int) : impl_isBits.f a = some (decide (0 ≤ a ∧ a ≤ 5)) := by
  unfold impl_isBits.f
  by_cases h : 0 ≤ a
  · rw [if_pos h]; simp [h]
  · rw [if_neg h]; simp [h]

/-! ### facts on impl_MapInput -/
--IMPORT M5
open Go.Proofs.Ytdgbfpnjnfpjaaa.M in
theorem impl_MapInput.ev (a : Int) (l : List Int) (s x : Int) : Ev (fun k => impl_MapInput.f k a l s x) (mapI a l s x) := by
  unfold mapI
  have h1 : impl_IsInvertible.f a l = some (invB a l) := rfl
  cases hi : invB a l with
  | false =>
    rw [hi] at h1
    refine Ev.since (0) fun k hk => ?_
    simp only [impl_MapInput.f, h1, Option.bind_some, Bool.false_eq_true, if_false, Bool.false_and]
  | true =>
    rw [hi] at h1
    obtain ⟨n, rfl, hn, hl, hc, _⟩ := invB_open hi
    have hp := pow_le_5 hn
    have hp1 := Nat.two_pow_pos n
    have e : ∀ y : Int, impl_isInput.f (n : Int) y = some (inR n y) := fun y => impl_IsInvertible.input_ev hn y
    have hf : ∀ k, impl_MapInput.f k (n : Int) l s x = if inR n s = true then if inR n x = true then (impl_image.f k l x).bind fun t => some (Go.bits .xor .i64 t s) else some (-1) else some (-1) := fun k => by
      simp only [impl_MapInput.f]
      rw [h1]
      simp only [Option.bind_some, if_true]
      rw [e, e]
      simp only [Option.bind_some]
    rw [Int.toNat_natCast, Bool.true_and]
    cases hs : inR n s with
    | false => exact Ev.since (0) fun k hk => by rw [hf k, hs]; rfl
    | true =>
      cases hx : inR n x with
      | false => exact Ev.since (0) fun k hk => by rw [hf k, hs, hx]; rfl
      | true =>
        obtain ⟨s, rfl, hs'⟩ := inR_nat hs
        obtain ⟨x, rfl, hx'⟩ := inR_nat hx
        have h2 := impl_IsInvertible.image_ev (x := x) hl hn (cols32 hn hc) (by omega)
        have h3 : img (cols l) x n < 2 ^ n := img_lt x (fun j hj => (hc j hj).1)
        obtain ⟨K2, h2⟩ := h2
        refine Ev.since (K2) fun k hk => ?_
        have h2' : impl_image.f k l (x : Int) = some ((img (cols l) x n : Nat) : Int) := h2 k (by omega)
        rw [hf k, hs, hx, h2']
        simp only [Option.bind_some, if_true, Bool.and_self]
        rw [xor_nat (by omega) (by omega), Int.toNat_natCast, Int.toNat_natCast]

/-! ### facts on laws_FnExactMapInput -/
--IMPORT M5
open Go.Proofs.Ytdgbfpnjnfpjaaa.M in
theorem laws_FnExactMapInput.pure_ : laws_FnExactMapInput.Pure := by
  intro a l s x _ _ _ _ _ _
  by_cases hl : l.length ≤ 1048576
  · obtain ⟨K1, h1⟩ : ∃ K, ∀ k, K ≤ k → laws_toIntS.f k l = some l := laws_toIntS.ev l hl
    obtain ⟨K2, h2⟩ : ∃ K, ∀ k, K ≤ k → spec_MapInput.f k a l s x = some (mapI a l s x) := spec_MapInput.ev a l s x
    obtain ⟨K3, h3⟩ : ∃ K, ∀ k, K ≤ k → laws_eqIntS.f k l l = some true := laws_eqIntS.ev l hl
    obtain ⟨K4, h4⟩ : ∃ K, ∀ k, K ≤ k → impl_MapInput.f k a l s x = some (mapI a l s x) := impl_MapInput.ev a l s x
    have hn : ¬ ((l.length : Int) > 1048576) := by omega
    generalize mapI a l s x = r at *
    refine ⟨K1 + K2 + K3 + K4, ?_⟩
    simp (disch := omega) only [laws_FnExactMapInput.f, h1, h2, h3, h4, hn, if_false, if_true, Option.bind_some, bne_self_eq_false, Bool.false_eq_true]
  · exact ⟨0, by unfold laws_FnExactMapInput.f; rw [if_pos (by omega)]⟩

end Go.Proofs.Ytdgbfpnjnfpjaaa.Print
