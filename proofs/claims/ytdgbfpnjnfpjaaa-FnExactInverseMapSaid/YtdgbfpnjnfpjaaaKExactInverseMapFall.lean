/- Functions of the given program as plain Lean functions, with proofs that their calls compute them, or lemmas on these. Laid by a program of this repo for the seat Ytdgbfpnjnfpjaaa; Lean checks it. -/
import Derived.Test.YtdgbfpnjnfpjaaaKExactInverseMap0
import Derived.Test.YtdgbfpnjnfpjaaaKExactInverseMap1
import Derived.Test.YtdgbfpnjnfpjaaaKExactInverseMap2
import Derived.Test.YtdgbfpnjnfpjaaaKExactInverseMap5
import Derived.Test.YtdgbfpnjnfpjaaaKExactInverseMap6
import Derived.Test.YtdgbfpnjnfpjaaaKExactInverseMap7
import Derived.Test.YtdgbfpnjnfpjaaaM5
namespace Go.Proofs.Ytdgbfpnjnfpjaaa.Print
open Go.RowKit Go.Proofs.YtdgbfpnjnfpjaaaW.PrintWords Go.Proofs.YtdgbfpnjnfpjaaaW.PrintLast Go.Proofs.YtdgbfpnjnfpjaaaW.PrintMore
attribute [local go_sem] max2_int min2_int max_two min_two max_three min_three max_four min_four   -- for this text's walks alone
set_option linter.unusedVariables false
set_option linter.unusedSimpArgs false

/-! ### facts on laws_toIntS -/
--IMPORT M5
open Go.Proofs.Ytdgbfpnjnfpjaaa.M in
theorem laws_toIntS.ev (l : List Int) (h : l.length ≤ 1048576) : Ev (fun k => laws_toIntS.f k l) l := by
  have key : ∀ d i, i + d = l.length → Ev (fun k => laws_toIntS.l0 k l (fillAt id 0 l i) (i : Int)) (l.map id) := by
    refine Ev.count (fun k i => laws_toIntS.l0 k l (fillAt id 0 l i) (i : Int)) l.length _ ?_ ?_
    · intro i hi hn
      refine Ev.step (fun k => ?_) hn
      have hl := fillAt_length id 0 l (i := i) (by omega)
      simp only [laws_toIntS.l0]
      rw [if_pos (by omega), if_pos (by omega), if_pos (by rw [hl]; omega), w64 (by omega) (by omega), rd_nat, Int.toNat_natCast]
      have e := fillAt_set id 0 l 0 hi
      rw [← e]; rfl
    · refine Ev.end (fun k => ?_)
      simp only [laws_toIntS.l0]
      rw [if_neg (by omega), fillAt_all]
  have h0 := key l.length 0 (by omega)
  rw [fillAt_zero, List.map_id] at h0
  refine Ev.congr (fun k => ?_) h0
  unfold laws_toIntS.f
  rw [if_pos (by omega), if_pos (by simp; omega), Int.toNat_natCast]; rfl

/-! ### facts on laws_eqIntS -/
--IMPORT M5
open Go.Proofs.Ytdgbfpnjnfpjaaa.M in
theorem laws_eqIntS.ev (l : List Int) (h : l.length ≤ 1048576) : Ev (fun k => laws_eqIntS.f k l l) true := by
  have key : ∀ d i, i + d = l.length → Ev (fun k => laws_eqIntS.l0 k l l (i : Int)) true := by
    refine Ev.count (fun k i => laws_eqIntS.l0 k l l (i : Int)) l.length _ ?_ ?_
    · intro i hi hn
      refine Ev.step (fun k => ?_) hn
      simp only [laws_eqIntS.l0, if_true]
      rw [if_pos (by omega), if_pos (by omega), if_pos (by omega), w64 (by omega) (by omega)]; rfl
    · refine Ev.end (fun k => ?_)
      simp only [laws_eqIntS.l0]
      rw [if_neg (by omega)]
  refine Ev.congr (fun k => ?_) (key l.length 0 (by omega))
  unfold laws_eqIntS.f
  rw [if_pos rfl]; rfl

/-! ### facts on laws_markIntS -/
--IMPORT M5
open Go.Proofs.Ytdgbfpnjnfpjaaa.M in
theorem laws_markIntS.ev (l : List Int) (a : Int) (h : l.length ≤ 1048576) (ha : 0 ≤ a) (hb : a ≤ 1000000000000) : Ev (fun k => laws_markIntS.f k l a) (a + (l.length : Int), upTo a l.length) := by
  have key : ∀ d i, i + d = l.length → Ev (fun k => laws_markIntS.l0 k (upTo a i ++ l.drop i) (a + (i : Int)) (i : Int)) (a + (l.length : Int), upTo a l.length) := by
    refine Ev.count (fun k i => laws_markIntS.l0 k (upTo a i ++ l.drop i) (a + (i : Int)) (i : Int)) l.length _ ?_ ?_
    · intro i hi hn
      refine Ev.step (fun k => ?_) hn
      simp only [laws_markIntS.l0]
      rw [if_pos (by rw [upTo_len (by omega)]; omega), if_pos (by omega), Int.toNat_natCast, upTo_set hi, w64 (by omega) (by omega), w64 (by omega) (by omega)]
      congr 1; omega
    · refine Ev.end (fun k => ?_)
      simp only [laws_markIntS.l0]
      rw [upTo_all, if_neg (by rw [upTo_length]; omega)]
  have h0 := key l.length 0 (by omega)
  rw [upTo_zero] at h0
  refine Ev.congr (fun k => ?_) h0
  unfold laws_markIntS.f
  simp

/-! ### facts on laws_heldIntS -/
--IMPORT M5
open Go.Proofs.Ytdgbfpnjnfpjaaa.M in
theorem laws_heldIntS.ev (n : Nat) (a : Int) (h : n ≤ 1048576) (ha : 0 ≤ a) (hb : a ≤ 1000000000000) : Ev (fun k => laws_heldIntS.f k (upTo a n) a) (a + (n : Int)) := by
  have key : ∀ d i, i + d = n → Ev (fun k => laws_heldIntS.l0 k (upTo a n) (a + (i : Int)) (i : Int)) (a + (n : Int)) := by
    refine Ev.count (fun k i => laws_heldIntS.l0 k (upTo a n) (a + (i : Int)) (i : Int)) n _ ?_ ?_
    · intro i hi hn
      refine Ev.step (fun k => ?_) hn
      simp only [laws_heldIntS.l0]
      rw [if_pos (by rw [upTo_length]; omega), if_pos (by omega), upTo_rd hi, if_pos rfl, w64 (by omega) (by omega), w64 (by omega) (by omega)]
      congr 1; omega
    · refine Ev.end (fun k => ?_)
      simp only [laws_heldIntS.l0]
      rw [if_neg (by rw [upTo_length]; omega)]
  refine Ev.congr (fun k => ?_) (key n 0 (by omega))
  unfold laws_heldIntS.f
  simp

/-! ### facts on spec_l1In -/
theorem spec_l1In.ev (a b c : Int) : spec_l1In.f a b c = some (decide (b ≤ a ∧ a ≤ c)) := by
  unfold spec_l1In.f
  by_cases h : b ≤ a
  · rw [if_pos h]; simp [h]
  · rw [if_neg h]; simp [h]

/-! ### facts on spec_RankMod2 -/
--IMPORT M5
open Go.Proofs.Ytdgbfpnjnfpjaaa.M in
theorem spec_RankMod2.inner {l : List Int} {g : Nat → Nat} {n i : Nat} {bs : List Nat} (hbs : ∀ b ∈ bs, b < 32) (hlen : bs.length ≤ 5) (hi : i < 5) {c : Nat} (hc : c < 32) {r : Int}
    (he : Ev (fun k => spec_RankMod2.l0 k l (ints (if red bs c > 0 then bs ++ [red bs c] else bs)) ((i + 1 : Nat) : Int)) r) :
    ∀ d j, j + d = bs.length → Ev (fun k => spec_RankMod2.l1 k l (ints bs) (i : Int) ((red (bs.take j) c : Nat) : Int) (j : Int)) r := by
  refine Ev.count (fun k j => spec_RankMod2.l1 k l (ints bs) (i : Int) ((red (bs.take j) c : Nat) : Int) (j : Int)) bs.length r ?_ ?_
  · intro j hj h
    refine Ev.step (fun k => ?_) h
    have hm : bs.getD j 0 ∈ bs := by rw [List.getD_eq_getElem?_getD, List.getElem?_eq_getElem hj]; exact List.getElem_mem hj
    have h1 := hbs _ hm
    have h2 : red (bs.take j) c < 32 := red_lt (fun b hb => hbs b (List.mem_of_mem_take hb)) hc
    simp only [spec_RankMod2.l1]
    rw [if_pos (by rw [ints_length]; omega), if_pos (by omega), rd_ints, xor_nat (by omega) (by omega), mn_nat, up1 (by omega), take_more bs 0 hj, red_append]
  · refine Ev.step (fun k => ?_) he
    simp only [spec_RankMod2.l1]
    rw [if_neg (by rw [ints_length]; omega), List.take_length]
    by_cases hr : red bs c > 0
    · rw [if_pos (by omega), if_pos (by rw [ints_length]; omega), if_pos hr, up1 (by omega), ints_append]
    · rw [if_neg (by omega), if_neg hr, up1 (by omega)]
open Go.Proofs.Ytdgbfpnjnfpjaaa.M in
theorem spec_RankMod2.ev {l : List Int} {n : Nat} (hn : l.length = n) (h5 : n ≤ 5) (hl : ∀ j, j < n → cols l j < 32 ∧ l.getD j 0 = ((cols l j : Nat) : Int)) :
    Ev (fun k => spec_RankMod2.f k l) (((basis (cols l) n).length : Nat) : Int) := by
  subst hn
  have hb : ∀ i, i ≤ l.length → ∀ b ∈ basis (cols l) i, b < 32 := by
    intro i
    induction i with
    | zero => intro _ b hb; simp [basis] at hb
    | succ i ih =>
      intro hi b hb
      rw [basis] at hb
      have ih' := ih (by omega)
      split at hb
      · rcases List.mem_append.mp hb with h | h
        · exact ih' b h
        · rw [List.mem_singleton.mp h]; exact red_lt ih' (hl i (by omega)).1
      · exact ih' b hb
  have key : ∀ d i, i + d = l.length → Ev (fun k => spec_RankMod2.l0 k l (ints (basis (cols l) i)) (i : Int)) (((basis (cols l) l.length).length : Nat) : Int) := by
    refine Ev.count (fun k i => spec_RankMod2.l0 k l (ints (basis (cols l) i)) (i : Int)) l.length _ ?_ ?_
    · intro i hi h
      obtain ⟨h1, h2⟩ := hl i hi
      have hle := basis_le (cols l) i
      have hin := spec_RankMod2.inner (l := l) (g := cols l) (n := l.length) (i := i) (hb i (by omega)) (by omega) (by omega) h1 h _ 0 (Nat.zero_add _)
      refine Ev.step (f := fun k => spec_RankMod2.j1 k l (ints (basis (cols l) i)) (i : Int) (decide ((i : Int) > 31))) (fun k => ?_) (Ev.step (fun k => ?_) hin)
      · simp only [spec_RankMod2.l0]
        rw [if_pos (by omega), if_pos (by omega), spec_l1In.ev, rd_nat, h2, decide_eq_true (by omega)]
        simp only [Option.bind_some, if_true]
      · simp only [spec_RankMod2.j1]
        rw [decide_eq_false (by omega), if_neg (by decide), if_pos (by omega), if_pos (by omega), rd_nat, h2]; rfl
    · refine Ev.end (fun k => ?_)
      simp only [spec_RankMod2.l0]
      rw [if_neg (by omega), ints_length]
  exact key l.length 0 (by omega)

/-! ### facts on spec_IsInvertible -/
--IMPORT M5
open Go.Proofs.Ytdgbfpnjnfpjaaa.M in
theorem spec_IsInvertible.ev (a : Int) (l : List Int) : Ev (fun k => spec_IsInvertible.f k a l) (invB a l) := by
  unfold invB
  by_cases hb : 0 ≤ a ∧ a ≤ 5
  · obtain ⟨n, rfl⟩ := nat_of hb.1
    have hn : n ≤ 5 := by omega
    have h32 := pow_le_5 hn
    have h1 := Nat.two_pow_pos n
    rw [decide_eq_true hb, Bool.true_and, Int.toNat_natCast]
    by_cases hl : (l.length : Int) = (n : Int)
    · have hln : l.length = n := by omega
      rw [decide_eq_true hl, Bool.true_and]
      have rest : Ev (fun k => spec_IsInvertible.l0 k (n : Int) l 0) (l.all (fun c => decide (0 ≤ c ∧ c < ((2 ^ n : Nat) : Int))) && indB (cols l) n) := by
        have rng : wrap64 (((2 ^ n : Nat) : Int) - 1) = ((2 ^ n : Nat) : Int) - 1 := w64 (by omega) (by omega)
        have step : ∀ i, i < n → ∀ q, decide (0 ≤ l.getD i 0 ∧ l.getD i 0 < ((2 ^ n : Nat) : Int)) = q → ∀ k, spec_IsInvertible.l0 (k + 1) (n : Int) l (i : Int) = if q = true then spec_IsInvertible.l0 k (n : Int) l ((i + 1 : Nat) : Int) else some false := by
          intro i hi q hq k
          simp only [spec_IsInvertible.l0]
          rw [if_pos (by omega), if_pos (by omega), if_pos (by omega), if_pos (by omega), shl_one (by omega), rng, spec_l1In.ev, rd_nat, up1 (by omega)]
          simp only [Option.bind_some]
          rw [← hq, show decide (0 ≤ l.getD i 0 ∧ l.getD i 0 ≤ ((2 ^ n : Nat) : Int) - 1) = decide (0 ≤ l.getD i 0 ∧ l.getD i 0 < ((2 ^ n : Nat) : Int)) from decide_eq_decide.mpr (by omega)]
        cases ha : l.all (fun c => decide (0 ≤ c ∧ c < ((2 ^ n : Nat) : Int))) with
        | true =>
          rw [Bool.true_and]
          have hc : ∀ j, j < n → cols l j < 32 ∧ l.getD j 0 = ((cols l j : Nat) : Int) := fun j hj => by
            obtain ⟨h2, h3⟩ := cols_of ha (show j < l.length by omega)
            exact ⟨by omega, h3⟩
          have e : indB (cols l) n = ((((basis (cols l) n).length : Nat) : Int) == (n : Int)) := by
            rw [Bool.eq_iff_iff, indB_iff, ← basis_iff (fun j hj => (hc j hj).1), beq_iff_eq]
            exact ⟨fun h => by rw [h], fun h => by exact_mod_cast h⟩
          rw [e]
          have key : ∀ d i, i + d = n → Ev (fun k => spec_IsInvertible.l0 k (n : Int) l (i : Int)) ((((basis (cols l) n).length : Nat) : Int) == (n : Int)) := by
            refine Ev.count (fun k i => spec_IsInvertible.l0 k (n : Int) l (i : Int)) n _ ?_ ?_
            · intro i hi h
              exact Ev.step (fun k => by rw [step i hi true (all_true_at ha (show i < l.length by omega)) k, if_pos rfl]) h
            · have hr := spec_RankMod2.ev hln hn hc
              generalize (((basis (cols l) n).length : Nat) : Int) = R at hr ⊢
              refine Ev.step (f := fun k => (spec_RankMod2.f k l).bind fun t => some (t == (n : Int))) (fun k => ?_) (Ev.bind hr (Ev.now _))
              simp only [spec_IsInvertible.l0]
              rw [if_neg (by omega)]
          exact key n 0 (by omega)
        | false =>
          rw [Bool.false_and]
          obtain ⟨j, hj, hf⟩ := all_false_at ha
          exact Ev.bad (fun k i => spec_IsInvertible.l0 k (n : Int) l (i : Int)) n false (fun i => decide (0 ≤ l.getD i 0 ∧ l.getD i 0 < ((2 ^ n : Nat) : Int)))
            (fun i hi h he => Ev.step (fun k => by rw [step i hi true h k, if_pos rfl]) he)
            (fun i hi h => Ev.end (fun k => by rw [step i hi false h k, if_neg (by decide)])) n 0 (by omega) ⟨j, by omega, by omega, hf⟩
      generalize (l.all (fun c => decide (0 ≤ c ∧ c < ((2 ^ n : Nat) : Int))) && indB (cols l) n) = R at rest ⊢
      refine Ev.congr (f := fun k => spec_IsInvertible.j0 k (n : Int) l ((l.length : Int) != (n : Int))) (fun k => ?_) (Ev.step (fun k => ?_) rest)
      · unfold spec_IsInvertible.f
        rw [spec_l1In.ev, decide_eq_true (by omega)]
        simp only [Option.bind_some, if_true]
      · simp only [spec_IsInvertible.j0]
        rw [if_neg (by simp [hl])]
    · rw [decide_eq_false hl, Bool.false_and]
      refine Ev.congr (f := fun k => spec_IsInvertible.j0 k (n : Int) l ((l.length : Int) != (n : Int))) (fun k => ?_) (Ev.end (fun k => ?_))
      · unfold spec_IsInvertible.f
        rw [spec_l1In.ev, decide_eq_true (by omega)]
        simp only [Option.bind_some, if_true]
      · simp only [spec_IsInvertible.j0]
        rw [if_pos (by simp; omega)]
  · rw [decide_eq_false hb, Bool.false_and]
    refine Ev.congr (f := fun k => spec_IsInvertible.j0 k a l true) (fun k => ?_) (Ev.end (fun k => ?_))
    · unfold spec_IsInvertible.f
      rw [spec_l1In.ev, decide_eq_false (by omega)]
      simp only [Option.bind_some, Bool.false_eq_true, if_false]
    · simp only [spec_IsInvertible.j0, if_true]

/-! ### facts on spec_l27Apply -/
--IMPORT M5
open Go.Proofs.Ytdgbfpnjnfpjaaa.M in
theorem spec_l27Apply.ev {l : List Int} {n x : Nat} (hn : l.length = n) (h5 : n ≤ 5) (hl : ∀ j, j < n → cols l j < 32 ∧ l.getD j 0 = ((cols l j : Nat) : Int)) (hx : x < 2 ^ 63) :
    Ev (fun k => spec_l27Apply.f k l (x : Int)) ((img (cols l) x n : Nat) : Int) := by
  subst hn
  have key : ∀ d i, i + d = l.length → Ev (fun k => spec_l27Apply.l0 k l (x : Int) ((img (cols l) x i : Nat) : Int) (i : Int)) ((img (cols l) x l.length : Nat) : Int) := by
    refine Ev.count (fun k i => spec_l27Apply.l0 k l (x : Int) ((img (cols l) x i : Nat) : Int) (i : Int)) l.length _ ?_ ?_
    · intro i hi h
      refine Ev.step (fun k => ?_) h
      obtain ⟨h1, h2⟩ := hl i hi
      have h3 : img (cols l) x i < 2 ^ 5 := img_lt x (fun j hj => (hl j (by omega)).1)
      simp only [spec_l27Apply.l0]
      rw [if_pos (by omega), if_pos (by omega), bit_nat hx (by omega), rd_nat, h2, up1 (by omega), xor_nat (by omega) (by omega)]
      rw [img]
      cases x.testBit i <;> simp
    · refine Ev.end (fun k => ?_)
      simp only [spec_l27Apply.l0]
      rw [if_neg (by omega)]
  exact key l.length 0 (by omega)

/-! ### facts on spec_InverseMap -/
--IMPORT M5
open Go.Proofs.Ytdgbfpnjnfpjaaa.M in
theorem spec_InverseMap.evF {a : Int} {l : List Int} (h : invB a l = false) : Ev (fun k => spec_InverseMap.f k a l) ([], false) := by
  obtain ⟨K1, h1⟩ : ∃ K, ∀ k, K ≤ k → spec_IsInvertible.f k a l = some (invB a l) := spec_IsInvertible.ev a l
  refine Ev.since (K1) fun k hk => ?_
  simp only [spec_InverseMap.f, Option.bind_some, h1 k hk, h, Bool.false_eq_true, if_false]
open Go.Proofs.Ytdgbfpnjnfpjaaa.M in
theorem spec_InverseMap.evT {n : Nat} {l : List Int} (h : invB (n : Int) l = true) {p : Nat → Nat} (hp : ∀ i, i < n → p i < 2 ^ n ∧ img (cols l) (p i) n = 2 ^ i) : Ev (fun k => spec_InverseMap.f k (n : Int) l) (ints ((List.range n).map p), true) := by
  obtain ⟨n', e, hn, hl, hc, hind⟩ := invB_open h
  obtain rfl : n = n' := by omega
  have h5 := pow_le_5 hn
  have h0 := Nat.two_pow_pos n
  have inner : ∀ i, i < n → ∀ (o : List Nat) (r : List Int × Bool), o.length ≤ 1000 → Ev (fun k => spec_InverseMap.l0 k (n : Int) l (ints (o ++ [p i])) ((i + 1 : Nat) : Int)) r →
      Ev (fun k => spec_InverseMap.l1 k (n : Int) l (ints o) (i : Int) 0) r := by
    intro i hi o r ho he
    obtain ⟨p1, p2⟩ := hp i hi
    have key : ∀ d x, x + d = 2 ^ n → Ev (fun k => spec_InverseMap.l1 k (n : Int) l (ints (if p i < x then o ++ [p i] else o)) (i : Int) (x : Int)) r := by
      refine Ev.count (fun k x => spec_InverseMap.l1 k (n : Int) l (ints (if p i < x then o ++ [p i] else o)) (i : Int) (x : Int)) (2 ^ n) r ?_ ?_
      · intro x hx hn'
        have h2 := spec_l27Apply.ev (x := x) hl hn (cols32 hn hc) (by omega)
        refine Ev.step (f := fun k => (spec_l27Apply.f k l (x : Int)).bind fun t => if t = ((2 ^ i : Nat) : Int) then spec_InverseMap.l1 k (n : Int) l (ints (if p i < x then o ++ [p i] else o) ++ [(x : Int)]) (i : Int) ((x + 1 : Nat) : Int) else spec_InverseMap.l1 k (n : Int) l (ints (if p i < x then o ++ [p i] else o)) (i : Int) ((x + 1 : Nat) : Int)) (fun k => ?_) (Ev.bind h2 ?_)
        · have hlen : (ints (if p i < x then o ++ [p i] else o)).length < 17592186044416 := by rw [ints_length]; split <;> (try simp) <;> omega
          simp only [spec_InverseMap.l1]
          rw [if_pos (Int.natCast_nonneg n), shl_one (by omega), if_pos (by omega)]
          congr 1; funext t
          rw [if_pos (by omega), shl_one (by omega), up1 (by omega), if_pos hlen]
        · by_cases hx2 : img (cols l) x n = 2 ^ i
          · have ex : p i = x := hind.inj p1 hx (by rw [p2, hx2])
            refine Ev.congr (fun k => if_pos (by rw [hx2])) ?_
            rw [if_pos (show p i < x + 1 by omega)] at hn'
            refine Ev.congr (fun k => ?_) hn'
            rw [if_neg (show ¬ p i < x by omega), ← ints_append, ex]
          · have ex : p i ≠ x := fun e => hx2 (by rw [← e, p2])
            refine Ev.congr (fun k => if_neg (fun e => hx2 (by exact_mod_cast e))) ?_
            by_cases h3 : p i < x
            · rw [if_pos (by omega)] at hn'; rw [if_pos h3]; exact hn'
            · rw [if_neg (by omega)] at hn'; rw [if_neg h3]; exact hn'
      · refine Ev.step (fun k => ?_) he
        simp only [spec_InverseMap.l1]
        rw [if_pos (Int.natCast_nonneg n), shl_one (by omega), if_neg (by omega), if_pos p1, up1 (by omega)]
    have := key (2 ^ n) 0 (by omega)
    rw [if_neg (by omega)] at this
    exact this
  have key : ∀ d i, i + d = n → Ev (fun k => spec_InverseMap.l0 k (n : Int) l (ints ((List.range i).map p)) (i : Int)) (ints ((List.range n).map p), true) := by
    refine Ev.count (fun k i => spec_InverseMap.l0 k (n : Int) l (ints ((List.range i).map p)) (i : Int)) n _ ?_ ?_
    · intro i hi hn'
      rw [← range_snoc, ← ints_append] at hn'
      refine Ev.step (fun k => ?_) (inner i hi _ _ (by simp; omega) hn')
      simp only [spec_InverseMap.l0]
      rw [if_pos (by omega)]
    · refine Ev.end (fun k => ?_)
      simp only [spec_InverseMap.l0]
      rw [if_neg (by omega)]
  obtain ⟨K2, h2⟩ := key n 0 (by omega)
  obtain ⟨K1, h1⟩ : ∃ K, ∀ k, K ≤ k → spec_IsInvertible.f k (n : Int) l = some (invB (n : Int) l) := spec_IsInvertible.ev (n : Int) l
  refine Ev.since (K1 + K2) fun k hk => ?_
  have h3 := h2 k (by omega)
  simp only [spec_InverseMap.f, Option.bind_some, h1 k (by omega), h, if_true]
  exact h3

/-! ### facts on impl_isBits -/
theorem impl_isBits.ev (a : Int) : impl_isBits.f a = some (decide (0 ≤ a ∧ a ≤ 5)) := by
  unfold impl_isBits.f
  by_cases h : 0 ≤ a
  · rw [if_pos h]; simp [h]
  · rw [if_neg h]; simp [h]

/-! ### facts on impl_InverseMap -/
--IMPORT M5
open Go.Proofs.Ytdgbfpnjnfpjaaa.M in
theorem impl_InverseMap.evF {a : Int} {l : List Int} (h : invB a l = false) : Ev (fun k => impl_InverseMap.f k a l) ([], false) := by
  have h1 : impl_IsInvertible.f a l = some (invB a l) := rfl
  refine Ev.since (0) fun k hk => ?_
  simp only [impl_InverseMap.f, h1, Option.bind_some, h, Bool.false_eq_true, if_false]
open Go.Proofs.Ytdgbfpnjnfpjaaa.M in
theorem impl_InverseMap.evT {n : Nat} {l : List Int} (h : invB (n : Int) l = true) {p : Nat → Nat} (hp : ∀ i, i < n → p i < 2 ^ n ∧ img (cols l) (p i) n = 2 ^ i) : Ev (fun k => impl_InverseMap.f k (n : Int) l) (ints ((List.range n).map p), true) := by
  obtain ⟨n', e, hn, hl, hc, hind⟩ := invB_open h
  obtain rfl : n = n' := by omega
  have h5 := pow_le_5 hn
  have h0 := Nat.two_pow_pos n
  have h1 : impl_IsInvertible.f (n : Int) l = some (invB (n : Int) l) := rfl
  have inner : ∀ x, x < 2 ^ n → ∀ r, Ev (fun k => impl_InverseMap.l0 k (n : Int) l (ints ((List.range n).map (fun j => if p j < x + 1 then p j else 0))) ((2 ^ n : Nat) : Int) ((x + 1 : Nat) : Int)) r →
      ∀ d i, i + d = n → Ev (fun k => impl_InverseMap.l1 k (n : Int) l (ints ((List.range n).map (fun j => if p j < x ∨ (p j = x ∧ j < i) then p j else 0))) (x : Int) ((2 ^ n : Nat) : Int) (x : Int) (n : Int) (i : Int)) r := by
    intro x hx r he
    refine Ev.count (fun k i => impl_InverseMap.l1 k (n : Int) l (ints ((List.range n).map (fun j => if p j < x ∨ (p j = x ∧ j < i) then p j else 0))) (x : Int) ((2 ^ n : Nat) : Int) (x : Int) (n : Int) (i : Int)) n r ?_ ?_
    · intro i hi hn'
      obtain ⟨p1, p2⟩ := hp i hi
      have h2 := impl_IsInvertible.image_ev (x := x) hl hn (cols32 hn hc) (by omega)
      refine Ev.step (f := fun k => (impl_image.f k l (x : Int)).bind fun t => if t = ((2 ^ i : Nat) : Int) then impl_InverseMap.l1 k (n : Int) l ((ints ((List.range n).map (fun j => if p j < x ∨ (p j = x ∧ j < i) then p j else 0))).set i (x : Int)) (x : Int) ((2 ^ n : Nat) : Int) (x : Int) (n : Int) ((i + 1 : Nat) : Int) else impl_InverseMap.l1 k (n : Int) l (ints ((List.range n).map (fun j => if p j < x ∨ (p j = x ∧ j < i) then p j else 0))) (x : Int) ((2 ^ n : Nat) : Int) (x : Int) (n : Int) ((i + 1 : Nat) : Int)) (fun k => ?_) (Ev.bind h2 ?_)
      · have hlen : (i : Int) < ((ints ((List.range n).map (fun j => if p j < x ∨ (p j = x ∧ j < i) then p j else 0))).length : Int) := by rw [ints_range_length]; omega
        simp only [impl_InverseMap.l1]
        rw [if_pos (by omega)]
        congr 1; funext t
        rw [if_pos (by omega), shl_one (by omega), if_pos hlen, up1 (by omega), Int.toNat_natCast]
      · by_cases hx2 : img (cols l) x n = 2 ^ i
        · have ex : p i = x := hind.inj p1 hx (by rw [p2, hx2])
          refine Ev.congr (fun k => if_pos (by rw [hx2])) ?_
          rw [range_set (f' := fun j => if p j < x ∨ (p j = x ∧ j < i + 1) then p j else 0) hi (by rw [if_pos (by omega)]; exact ex) (fun j hj hne => by
            by_cases h3 : p j < x ∨ (p j = x ∧ j < i)
            · rw [if_pos h3, if_pos (by omega)]
            · rw [if_neg h3, if_neg (by omega)])]
          exact hn'
        · have ex : p i ≠ x := fun e => hx2 (by rw [← e, p2])
          refine Ev.congr (fun k => if_neg (fun e => hx2 (by exact_mod_cast e))) ?_
          rw [range_congr (f' := fun j => if p j < x ∨ (p j = x ∧ j < i + 1) then p j else 0) (fun j hj => by
            by_cases h3 : p j < x ∨ (p j = x ∧ j < i)
            · rw [if_pos h3, if_pos (by omega)]
            · rw [if_neg h3, if_neg (by
                rintro (h4 | ⟨h4, h5⟩)
                · exact h3 (.inl h4)
                · by_cases e : j = i
                  · subst e; exact ex h4
                  · exact h3 (.inr ⟨h4, by omega⟩))])]
          exact hn'
    · refine Ev.step (fun k => ?_) he
      simp only [impl_InverseMap.l1]
      rw [if_neg (by omega), up1 (by omega)]
      rw [range_congr (f' := fun j => if p j < x + 1 then p j else 0) (fun j hj => by
            by_cases h3 : p j < x + 1
            · rw [if_pos h3, if_pos (by omega)]
            · rw [if_neg h3, if_neg (by omega)])]
  have key : ∀ d x, x + d = 2 ^ n → Ev (fun k => impl_InverseMap.l0 k (n : Int) l (ints ((List.range n).map (fun j => if p j < x then p j else 0))) ((2 ^ n : Nat) : Int) (x : Int)) (ints ((List.range n).map p), true) := by
    refine Ev.count (fun k x => impl_InverseMap.l0 k (n : Int) l (ints ((List.range n).map (fun j => if p j < x then p j else 0))) ((2 ^ n : Nat) : Int) (x : Int)) (2 ^ n) _ ?_ ?_
    · intro x hx hn'
      have := inner x hx _ hn' n 0 (by omega)
      refine Ev.step (fun k => ?_) this
      simp only [impl_InverseMap.l0]
      rw [if_pos (by omega)]
      rw [range_congr (f' := fun j => if p j < x ∨ (p j = x ∧ j < 0) then p j else 0) (fun j hj => by
            by_cases h3 : p j < x
            · rw [if_pos h3, if_pos (by omega)]
            · rw [if_neg h3, if_neg (by omega)])]
      rfl
    · refine Ev.end (fun k => ?_)
      simp only [impl_InverseMap.l0]
      rw [if_neg (by omega), range_congr (f' := p) (fun j hj => by rw [if_pos (hp j hj).1])]
  obtain ⟨K2, h2⟩ := key (2 ^ n) 0 (by omega)
  refine Ev.since (K2) fun k hk => ?_
  have h3 := h2 k (by omega)
  simp only [] at h3
  rw [range_zero (fun j hj => by rw [if_neg (by omega)])] at h3
  simp only [impl_InverseMap.f, h1, Option.bind_some, h, if_true]
  rw [if_pos (Int.natCast_nonneg n), if_pos (by rw [Int.toNat_natCast]; omega), Int.toNat_natCast, shl_one (by omega)]
  exact h3

/-! ### facts on laws_FnExactInverseMap -/
--IMPORT M5
open Go.Proofs.Ytdgbfpnjnfpjaaa.M in
theorem laws_FnExactInverseMap.join {a : Int} {l : List Int} (hl : l.length ≤ 1048576) {rb : List Int × Bool} (hr : rb.1.length ≤ 1048576) (hs : Ev (fun k => spec_InverseMap.f k a l) rb) (hi : Ev (fun k => impl_InverseMap.f k a l) rb) : ∃ k, laws_FnExactInverseMap.f k a l = some true := by
  obtain ⟨K1, h1⟩ : ∃ K, ∀ k, K ≤ k → laws_toIntS.f k l = some l := laws_toIntS.ev l hl
  obtain ⟨K3, h3⟩ : ∃ K, ∀ k, K ≤ k → laws_eqIntS.f k l l = some true := laws_eqIntS.ev l hl
  obtain ⟨r, b⟩ := rb
  simp only [] at hr
  obtain ⟨K5, h5⟩ : ∃ K, ∀ k, K ≤ k → spec_InverseMap.f k a l = some (r, b) := hs
  obtain ⟨K6, h6⟩ : ∃ K, ∀ k, K ≤ k → impl_InverseMap.f k a l = some (r, b) := hi
  obtain ⟨K7, h7⟩ : ∃ K, ∀ k, K ≤ k → laws_eqIntS.f k r r = some true := laws_eqIntS.ev r hr
  obtain ⟨K8, h8⟩ : ∃ K, ∀ k, K ≤ k → laws_markIntS.f k l 1 = some (1 + (l.length : Int), upTo 1 l.length) := laws_markIntS.ev l 1 hl (by decide) (by decide)
  obtain ⟨K10, h10⟩ : ∃ K, ∀ k, K ≤ k → laws_markIntS.f k r 1 = some (1 + (r.length : Int), upTo 1 r.length) := laws_markIntS.ev r 1 hr (by decide) (by decide)
  obtain ⟨K11, h11⟩ : ∃ K, ∀ k, K ≤ k → laws_heldIntS.f k (upTo 1 r.length) 1 = some (1 + (r.length : Int)) := laws_heldIntS.ev r.length 1 hr (by decide) (by decide)
  have n1 : ¬ ((l.length : Int) > 1048576) := by omega
  have n3 : ¬ (1 + (l.length : Int) < 0) := by omega
  have n4 : ¬ (1 + (r.length : Int) < 0) := by omega
  refine ⟨K1 + K3 + K5 + K6 + K7 + K8 + K10 + K11 + 3, ?_⟩
  simp (disch := omega) only [laws_FnExactInverseMap.f, h1, h3, h5, h6, h7, h8, h10, h11, n1, n3, n4, ↓reduceIte, Option.bind_some, bne_self_eq_false, Bool.false_eq_true]
  simp (disch := omega) only [laws_FnExactInverseMap.j0, h1, h3, h5, h6, h7, h8, h10, h11, n1, n3, n4, ↓reduceIte, Option.bind_some, bne_self_eq_false, Bool.false_eq_true]
  simp (disch := omega) only [laws_FnExactInverseMap.j1, h1, h3, h5, h6, h7, h8, h10, h11, n1, n3, n4, ↓reduceIte, Option.bind_some, bne_self_eq_false, Bool.false_eq_true]
  simp (disch := omega) only [laws_FnExactInverseMap.j2, h1, h3, h5, h6, h7, h8, h10, h11, n1, n3, n4, ↓reduceIte, Option.bind_some, bne_self_eq_false, Bool.false_eq_true]
open Go.Proofs.Ytdgbfpnjnfpjaaa.M in
theorem laws_FnExactInverseMap.pure_ : laws_FnExactInverseMap.Pure := by
  intro a l _ _ _ _
  by_cases hl : l.length ≤ 1048576
  · cases h : invB a l with
    | false => exact laws_FnExactInverseMap.join hl (by simp) (spec_InverseMap.evF h) (impl_InverseMap.evF h)
    | true =>
      obtain ⟨n, rfl, hn, hl', hc, hind⟩ := invB_open h
      have hx : ∀ i, ∃ x, i < n → x < 2 ^ n ∧ img (cols l) x n = 2 ^ i := fun i => by
        by_cases hi : i < n
        · obtain ⟨x, h1, h2⟩ := hind.reach (fun j hj => (hc j hj).1) (Nat.pow_lt_pow_right (by decide) hi)
          exact ⟨x, fun _ => ⟨h1, h2⟩⟩
        · exact ⟨0, fun h => absurd h hi⟩
      have hp : ∀ i, i < n → Classical.choose (hx i) < 2 ^ n ∧ img (cols l) (Classical.choose (hx i)) n = 2 ^ i := fun i hi => Classical.choose_spec (hx i) hi
      exact laws_FnExactInverseMap.join hl (by rw [ints_range_length]; omega) (spec_InverseMap.evT h hp) (impl_InverseMap.evT h hp)
  · exact ⟨0, by unfold laws_FnExactInverseMap.f; rw [if_pos (by omega)]⟩

end Go.Proofs.Ytdgbfpnjnfpjaaa.Print
