/- Functions of the given program as plain Lean functions, with proofs that their calls compute them, or lemmas on these. Laid by a program of this repo for the seat Ytlcgappojmdgfaa; Lean checks it. -/
import Derived.Test.YtlcgappojmdgfaaKExactRunProtocol0
import Derived.Test.YtlcgappojmdgfaaKExactRunProtocol1
import Derived.Test.YtlcgappojmdgfaaKExactRunProtocol7
import Derived.Test.YtlcgappojmdgfaaKExactRunProtocol8
import Derived.Test.YtlcgappojmdgfaaM9
namespace Go.Proofs.Ytlcgappojmdgfaa.Print
open Go.RowKit Go.Proofs.YtlcgappojmdgfaaW.PrintWords Go.Proofs.YtlcgappojmdgfaaW.PrintLast Go.Proofs.YtlcgappojmdgfaaW.PrintMore
attribute [local go_sem] max2_int min2_int max_two min_two max_three min_three max_four min_four   -- for this text's walks alone
set_option linter.unusedVariables false
set_option linter.unusedSimpArgs false

/-! ### facts on spec_l21Digit -/
--IMPORT M9
open Go.Proofs.Ytlcgappojmdgfaa.M in
theorem spec_l21Digit.ev {c : Int} (h0 : 0 ≤ c) (h1 : c ≤ 255) : Ev (fun k => spec_l21Digit.f k c) (hexV c) := by
  unfold hexV
  by_cases h2 : c ≥ 48
  · refine Ev.congr (f := fun k => spec_l21Digit.j0 k c (decide (c ≤ 57))) (fun k => by unfold spec_l21Digit.f; rw [if_pos h2]) (Ev.end (fun k => ?_))
    simp only [spec_l21Digit.j0]
    by_cases h3 : c ≤ 57
    · rw [decide_eq_true h3, if_pos rfl, if_pos ⟨h2, h3⟩]; congr 1; omega
    · rw [decide_eq_false h3, if_neg (by decide), if_neg (show ¬ (48 ≤ c ∧ c ≤ 57) by omega)]
      by_cases h4 : c ≥ 97
      · rw [if_pos h4]
        by_cases h5 : c ≤ 102
        · rw [if_pos h5, if_pos ⟨h4, h5⟩]; congr 1; omega
        · rw [if_neg h5, if_neg (show ¬ (97 ≤ c ∧ c ≤ 102) by omega)]
      · rw [if_neg h4, if_neg (show ¬ (97 ≤ c ∧ c ≤ 102) by omega)]
  · refine Ev.congr (f := fun k => spec_l21Digit.j0 k c false) (fun k => by unfold spec_l21Digit.f; rw [if_neg h2]) (Ev.end (fun k => ?_))
    simp only [spec_l21Digit.j0]
    rw [if_neg (by decide), if_neg (show ¬ c ≥ 97 by omega), if_neg (show ¬ (48 ≤ c ∧ c ≤ 57) by omega), if_neg (show ¬ (97 ≤ c ∧ c ≤ 102) by omega)]

/-! ### facts on spec_l21End -/
--IMPORT M9
open Go.Proofs.Ytlcgappojmdgfaa.M in
/-- where the protocol ends, or -1 -/
def spec_l21End.at_ (p : Option (Tn × Nat)) : Int := match p with | none => -1 | some p => ((p.2 : Nat) : Int)
open Go.Proofs.Ytlcgappojmdgfaa.M in
theorem spec_l21End.first {S : ByteArray} {i : Nat} (hi : i < S.size) (q : Nat) : spec_l21End.f (q + 1) S (i : Int) = spec_l21End.j0 q S (i : Int) (decide (bt S i = 48 ∨ bt S i = 49)) := by
  simp only [spec_l21End.f]
  rw [if_neg (by omega), if_pos (by omega), if_pos (by omega)]
  generalize bt S i = c
  by_cases h1 : c = 48
  · rw [if_pos h1, decide_eq_true (.inl h1)]
  · rw [if_neg h1]; congr 1
    by_cases h2 : c = 49
    · rw [decide_eq_true (.inr h2), h2]; rfl
    · rw [decide_eq_false (by omega), beq_eq_false_iff_ne.mpr h2]
open Go.Proofs.Ytlcgappojmdgfaa.M in
theorem spec_l21End.second {S : ByteArray} {i : Nat} (hi : i < S.size) (hS : S.size ≤ 1000000) {r : Int} (h : Ev (fun q => spec_l21End.j1 q S (i : Int) (decide ((bt S i ≠ 65 ∧ bt S i ≠ 66) ∨ S.size < i + 2 ∨ hexV (bt S (i + 1 : Nat)) < 0))) r) : Ev (fun q => spec_l21End.j0 q S (i : Int) false) r := by
  have hr := bt_range S (i + 1 : Nat)
  have hd := spec_l21Digit.ev (c := bt S (i + 1 : Nat)) hr.1 hr.2
  have hw : wrap64 ((i : Int) + 1) = ((i + 1 : Nat) : Int) := up1 (by omega)
  by_cases hAB : bt S i = 65 ∨ bt S i = 66
  · by_cases h2 : S.size < i + 2
    · rw [decide_eq_true (.inr (.inl h2))] at h
      refine Ev.step (fun q => ?_) h
      simp only [spec_l21End.j0]
      rw [if_neg (by decide), if_pos (by omega), if_pos (by omega), hw]
      rcases hAB with e | e
      · rw [if_pos e, if_pos (by omega)]
      · rw [if_neg (by omega), if_pos e, if_pos (by omega)]
    · have e : decide ((bt S i ≠ 65 ∧ bt S i ≠ 66) ∨ S.size < i + 2 ∨ hexV (bt S (i + 1 : Nat)) < 0) = decide (hexV (bt S (i + 1 : Nat)) < 0) := by
        apply decide_eq_decide.mpr
        constructor
        · rintro (h3 | h3 | h3)
          · omega
          · omega
          · exact h3
        · exact fun h3 => .inr (.inr h3)
      rw [e] at h
      refine Ev.step (f := fun q => (spec_l21Digit.f q (bt S (i + 1 : Nat))).bind fun t => spec_l21End.j1 q S (i : Int) (decide (t < 0))) (fun q => ?_) (Ev.bind hd h)
      simp only [spec_l21End.j0]
      rw [if_neg (by decide), if_pos (by omega), if_pos (by omega), hw]
      rcases hAB with e | e
      · rw [if_pos e, if_neg (by omega), if_pos (by omega), if_pos (by omega)]
      · rw [if_neg (by omega), if_pos e, if_neg (by omega), if_pos (by omega), if_pos (by omega)]
  · rw [decide_eq_true (.inl (by omega))] at h
    refine Ev.step (fun q => ?_) h
    simp only [spec_l21End.j0]
    rw [if_neg (by decide), if_pos (by omega), if_pos (by omega), if_neg (by omega), if_neg (by omega)]
open Go.Proofs.Ytlcgappojmdgfaa.M in
theorem spec_l21End.ev {S : ByteArray} (hS : S.size ≤ 1000000) : ∀ k i, i ≤ S.size → S.size ≤ i + k → Ev (fun q => spec_l21End.f q S (i : Int)) (spec_l21End.at_ (rt S k i)) := by
  intro k
  induction k with
  | zero =>
    intro i hi hk
    refine Ev.end (fun q => ?_)
    simp only [spec_l21End.f]
    rw [if_pos (by omega), rt]; rfl
  | succ k ih =>
    intro i hi hk
    rw [rt]
    by_cases h0 : S.size ≤ i
    · rw [if_pos h0]
      refine Ev.end (fun q => ?_)
      simp only [spec_l21End.f]
      rw [if_pos (by omega)]; rfl
    · rw [if_neg h0]
      have hlt : i < S.size := by omega
      refine Ev.step (fun q => spec_l21End.first hlt q) ?_
      by_cases h1 : bt S i = 48 ∨ bt S i = 49
      · rw [if_pos h1, decide_eq_true h1]
        refine Ev.end (fun q => ?_)
        simp only [spec_l21End.j0, if_true]
        rw [up1 (by omega)]; rfl
      · rw [if_neg h1, decide_eq_false h1]
        refine spec_l21End.second hlt hS ?_
        by_cases h2 : (bt S i ≠ 65 ∧ bt S i ≠ 66) ∨ S.size < i + 2
        · rw [if_pos h2, decide_eq_true (by rcases h2 with h | h; exact .inl h; exact .inr (.inl h))]
          exact Ev.end (fun q => by simp only [spec_l21End.j1, if_true]; rfl)
        · rw [if_neg h2]
          by_cases h3 : hexV (bt S (i + 1 : Nat)) < 0
          · rw [if_pos h3, decide_eq_true (.inr (.inr h3))]
            exact Ev.end (fun q => by simp only [spec_l21End.j1, if_true]; rfl)
          · rw [if_neg h3, decide_eq_false (by rintro (h | h | h); exact h2 (.inl h); exact h2 (.inr h); exact h3 h)]
            have IH := ih (i + 2) (by omega) (by omega)
            cases hq : rt S k (i + 2) with
            | none =>
              rw [hq] at IH
              have hw : wrap64 ((i : Int) + 2) = ((i + 2 : Nat) : Int) := by rw [w64 (by omega) (by omega)]; omega
              refine Ev.step (f := fun q => (spec_l21End.f q S ((i + 2 : Nat) : Int)).bind fun t => if t < 0 then some (-1) else (spec_l21End.f q S t).bind fun u => some u) (fun q => ?_) (Ev.bind IH (Ev.congr (fun k => if_pos (by decide)) (Ev.now _)))
              simp only [spec_l21End.j1]
              rw [if_neg (by decide), hw]
            | some p =>
              obtain ⟨T, j⟩ := p
              obtain ⟨f1, f2, f3, f4⟩ := rt_some hq
              rw [hq] at IH
              have IH2 := ih j f3 (by omega)
              have e : spec_l21End.at_ ((some (T, j)).bind fun p => (rt S k p.2).bind fun q => some (Tn.node (bt S i) (hexV (bt S (i + 1 : Nat))) p.1 q.1, q.2)) = spec_l21End.at_ (rt S k j) := by
                rw [Option.bind_some]; cases rt S k j <;> rfl
              rw [e]
              have hw : wrap64 ((i : Int) + 2) = ((i + 2 : Nat) : Int) := by rw [w64 (by omega) (by omega)]; omega
              refine Ev.step (f := fun q => (spec_l21End.f q S ((i + 2 : Nat) : Int)).bind fun t => if t < 0 then some (-1) else (spec_l21End.f q S t).bind fun u => some u) (fun q => ?_) (Ev.bind IH (Ev.congr (fun k => if_neg (by clear hw; show ¬ ((j : Nat) : Int) < 0; omega)) (Ev.bind IH2 (Ev.now _))))
              simp only [spec_l21End.j1]
              rw [if_neg (by decide), hw]

/-! ### facts on spec_IsProtocol -/
--IMPORT M9
open Go.Proofs.Ytlcgappojmdgfaa.M in
theorem spec_IsProtocol.ev (S : ByteArray) : Ev (fun k => spec_IsProtocol.f k S) (protOf S).isSome := by
  unfold protOf
  by_cases h : S.size ≤ 100
  · rw [if_pos h]
    by_cases h0 : 0 < S.size
    · have h1 := spec_l21End.ev (S := S) (by omega) S.size 0 (by omega) (by omega)
      refine Ev.congr (f := fun k => (spec_l21End.f k S ((0 : Nat) : Int)).bind fun t => some (t == (S.size : Int))) (fun k => ?_) (Ev.bind h1 ?_)
      · unfold spec_IsProtocol.f
        rw [if_pos (by omega), if_pos (by omega)]; rfl
      · have e : (spec_l21End.at_ (rt S S.size 0) == (S.size : Int)) = ((rt S S.size 0).bind fun p => if p.2 = S.size then some p.1 else none).isSome := by
          cases rt S S.size 0 with
          | none => show ((-1 : Int) == _) = false; exact beq_eq_false_iff_ne.mpr (by omega)
          | some p =>
            rw [Option.bind_some]
            by_cases hp : p.2 = S.size
            · rw [if_pos hp]
              show (((p.2 : Nat) : Int) == _) = true
              rw [beq_iff_eq]; omega
            · rw [if_neg hp]
              show (((p.2 : Nat) : Int) == _) = false
              exact beq_eq_false_iff_ne.mpr (by omega)
        rw [e]; exact Ev.now _
    · have hz : S.size = 0 := by omega
      refine Ev.of_some (fun k => ?_)
      unfold spec_IsProtocol.f
      rw [if_pos (by omega), if_neg (by omega), hz]; rfl
  · rw [if_neg h]
    refine Ev.of_some (fun k => ?_)
    unfold spec_IsProtocol.f
    rw [if_neg (by omega)]; rfl

/-! ### facts on spec_l1In -/
theorem spec_l1In.ev (a b c : Int) : spec_l1In.f a b c = some (decide (b ≤ a ∧ a ≤ c)) := by
  unfold spec_l1In.f
  by_cases h : b ≤ a
  · rw [if_pos h]; simp [h]
  · rw [if_neg h]; simp [h]

/-! ### facts on spec_RunProtocol -/
--IMPORT M9
open Go.Proofs.Ytlcgappojmdgfaa.M in
theorem spec_RunProtocol.turn {S : ByteArray} {i : Nat} {a b : Nat} (ha : a < 4) (hb : b < 4) (hS : S.size ≤ 1000000) (hi : i + 1 < S.size) (hc : bt S i = 65 ∨ bt S i = 66) (hd : 0 ≤ hexV (bt S (i + 1 : Nat))) {m : Nat} {e : Int} {r : Int × Int × Bool}
    (he : Ev (fun q => spec_l21End.f q S ((i + 2 : Nat) : Int)) e)
    (h : Ev (fun q => spec_RunProtocol.l0 q S a b (if (hexV (bt S (i + 1 : Nat))).toNat.testBit (if bt S i = 66 then b else a) = true then e else ((i + 2 : Nat) : Int)) (wrap64 ((m : Int) + 1))) r) :
    Ev (fun q => spec_RunProtocol.l0 q S a b (i : Int) (m : Int)) r := by
  have hr := bt_range S (i + 1 : Nat)
  have hx := spec_l21Digit.ev (c := bt S (i + 1 : Nat)) hr.1 hr.2
  have hx15 := (hexV_range (bt S (i + 1 : Nat))).2
  obtain ⟨c2, hc2⟩ : ∃ c2, bt S (i + 1 : Nat) = c2 := ⟨_, rfl⟩
  rw [hc2] at hr hx hx15 hd h
  obtain ⟨dn, hdn⟩ : ∃ dn : Nat, hexV c2 = (dn : Int) := ⟨(hexV c2).toNat, by omega⟩
  rw [hdn] at h hx15
  rw [Int.toNat_natCast] at h
  have hw1 : wrap64 ((i : Int) + 1) = ((i + 1 : Nat) : Int) := up1 (by omega)
  have hw2 : wrap64 ((i : Int) + 2) = ((i + 2 : Nat) : Int) := by clear hw1; rw [w64 (by omega) (by omega)]; omega
  have q1 : (0 : Int) ≤ (i : Int) := Int.natCast_nonneg i
  have q2 : (i : Int) < (S.size : Int) := by clear hw1 hw2; omega
  have q3 : ((i + 1 : Nat) : Int) < (S.size : Int) := by clear hw1 hw2; omega
  have q4 : ¬ bt S i = 48 := by clear hw1 hw2; omega
  have q5 : (bt S i != 49) = true := bne_iff_ne.mpr (by clear hw1 hw2; omega)
  have hd16 : dn < 2 ^ 63 := by clear hw1 hw2; omega
  refine Ev.step (f := fun q => spec_RunProtocol.j2 q S a b (i : Int) (m : Int) true) (fun q => ?_) ?_
  · simp only [spec_RunProtocol.l0]
    rw [if_pos q1, if_pos q2, if_neg q4, q5]
  · rcases hc with hc | hc
    · have bit := bit_nat (a := dn) (n := a) hd16 (by clear hw1 hw2; omega)
      rw [if_neg (show ¬ bt S i = 66 by rw [hc]; decide)] at h
      refine Ev.step (f := fun q => (spec_l21Digit.f q c2).bind fun t => if (Go.bits .and .i64 (shr .i64 t (a : Int)) 1) = 1 then (spec_l21End.f q S ((i + 2 : Nat) : Int)).bind fun u => spec_RunProtocol.l0 q S a b u (wrap64 ((m : Int) + 1)) else spec_RunProtocol.l0 q S a b ((i + 2 : Nat) : Int) (wrap64 ((m : Int) + 1))) (fun q => ?_) (Ev.bind hx ?_)
      · simp only [spec_RunProtocol.j2, if_true, hw1, hw2]
        rw [if_pos (Int.natCast_nonneg _), if_pos q3, hc2]
        congr 1; funext t
        rw [if_pos (Int.natCast_nonneg _), if_pos q1, if_pos q2, if_neg (show ¬ bt S i = 66 by rw [hc]; decide)]
      · rw [hdn]
        cases hq : dn.testBit a with
        | true =>
          rw [hq, if_pos rfl] at h
          exact Ev.congr (fun k => if_pos (by rw [bit, hq]; rfl)) (Ev.bind he h)
        | false =>
          rw [hq, if_neg (by decide)] at h
          exact Ev.congr (fun k => if_neg (by rw [bit, hq]; decide)) h
    · have bit := bit_nat (a := dn) (n := b) hd16 (by clear hw1 hw2; omega)
      rw [if_pos hc] at h
      refine Ev.step (f := fun q => (spec_l21Digit.f q c2).bind fun t => if (Go.bits .and .i64 (shr .i64 t (b : Int)) 1) = 1 then (spec_l21End.f q S ((i + 2 : Nat) : Int)).bind fun u => spec_RunProtocol.l0 q S a b u (wrap64 ((m : Int) + 1)) else spec_RunProtocol.l0 q S a b ((i + 2 : Nat) : Int) (wrap64 ((m : Int) + 1))) (fun q => ?_) (Ev.bind hx ?_)
      · simp only [spec_RunProtocol.j2, if_true, hw1, hw2]
        rw [if_pos (Int.natCast_nonneg _), if_pos q3, hc2]
        congr 1; funext t
        rw [if_pos (Int.natCast_nonneg _), if_pos q1, if_pos q2, if_pos hc, if_pos (Int.natCast_nonneg _)]
      · rw [hdn]
        cases hq : dn.testBit b with
        | true =>
          rw [hq, if_pos rfl] at h
          exact Ev.congr (fun k => if_pos (by rw [bit, hq]; rfl)) (Ev.bind he h)
        | false =>
          rw [hq, if_neg (by decide)] at h
          exact Ev.congr (fun k => if_neg (by rw [bit, hq]; decide)) h
open Go.Proofs.Ytlcgappojmdgfaa.M in
theorem spec_RunProtocol.loop {S : ByteArray} {a b : Nat} (ha : a < 4) (hb : b < 4) (hS : S.size ≤ 1000000) : ∀ k i T j m, i ≤ S.size → S.size ≤ i + k → m ≤ 1000000 + i → rt S k i = some (T, j) → Ev (fun q => spec_RunProtocol.l0 q S a b (i : Int) (m : Int)) ((T.run a b).1, ((m + (T.run a b).2 : Nat) : Int), true) := by
  intro k
  induction k with
  | zero => intro i T j m _ _ _ h; simp [rt] at h
  | succ k ih =>
    intro i T j m hi hk hm h
    rw [rt] at h
    by_cases h0 : S.size ≤ i
    · rw [if_pos h0] at h; cases h
    · rw [if_neg h0] at h
      have hlt : i < S.size := by omega
      by_cases h1 : bt S i = 48 ∨ bt S i = 49
      · rw [if_pos h1] at h
        simp only [Option.some.injEq, Prod.mk.injEq] at h
        obtain ⟨rfl, rfl⟩ := h
        have e0 : ∀ c : Int, ((Tn.node c 0 .nil .nil).run a b) = (c - 48, 0) := fun c => rfl
        rw [e0]
        refine Ev.step (f := fun q => spec_RunProtocol.j2 q S a b (i : Int) (m : Int) false) (fun q => ?_) (Ev.end (fun q => ?_))
        · simp only [spec_RunProtocol.l0]
          rw [if_pos (by omega), if_pos (by omega)]
          rcases h1 with h1 | h1
          · rw [if_pos h1]
          · rw [if_neg (by omega), h1]; rfl
        · simp only [spec_RunProtocol.j2]
          rw [if_neg (by decide), if_pos (by omega), if_pos (by omega)]
          rcases h1 with h1 | h1 <;> (rw [h1]; rfl)
      · rw [if_neg h1] at h
        by_cases h2 : (bt S i ≠ 65 ∧ bt S i ≠ 66) ∨ S.size < i + 2
        · rw [if_pos h2] at h; cases h
        · rw [if_neg h2] at h
          by_cases h3 : hexV (bt S (i + 1 : Nat)) < 0
          · rw [if_pos h3] at h; cases h
          · rw [if_neg h3] at h
            obtain ⟨⟨p1, p2⟩, hp, h⟩ := Option.bind_eq_some_iff.mp h
            obtain ⟨⟨q1, q2⟩, hq, h⟩ := Option.bind_eq_some_iff.mp h
            simp only [Option.some.injEq, Prod.mk.injEq] at h
            obtain ⟨rfl, rfl⟩ := h
            obtain ⟨f1, f2, f3, f4⟩ := rt_some hp
            have he := spec_l21End.ev hS k (i + 2) (by omega) (by omega)
            rw [hp] at he
            have ih1 := ih (i + 2) p1 p2 (m + 1) (by omega) (by omega) (by omega) hp
            have ih2 := ih p2 q1 q2 (m + 1) f3 (by omega) (by omega) hq
            have hAB : bt S i = 65 ∨ bt S i = 66 := by omega
            have hlt2 : i + 1 < S.size := by omega
            have hw : wrap64 ((m : Int) + 1) = ((m + 1 : Nat) : Int) := up1 (by omega)
            refine spec_RunProtocol.turn ha hb hS hlt2 hAB (by clear hw; omega) he ?_
            rw [run_two a b _ _ f1, hw]
            by_cases hqq : (hexV (bt S (i + 1 : Nat))).toNat.testBit (if bt S i = 66 then b else a) = true
            · rw [if_pos hqq, if_pos hqq]
              have e : m + ((q1.run a b).2 + 1) = m + 1 + (q1.run a b).2 := by clear hw; omega
              rw [e]; exact ih2
            · rw [if_neg hqq, if_neg hqq]
              have e : m + ((p1.run a b).2 + 1) = m + 1 + (p1.run a b).2 := by clear hw; omega
              rw [e]; exact ih1
theorem spec_RunProtocol.bad {S : ByteArray} {a b : Int} : Ev (fun q => spec_RunProtocol.j0 q S a b true) (0, 0, false) := ⟨1, fun k hk => by
  obtain ⟨m, rfl⟩ : ∃ m, k = m + 1 := ⟨k - 1, by omega⟩
  simp only [spec_RunProtocol.j0, if_true]⟩
open Go.Proofs.Ytlcgappojmdgfaa.M in
theorem spec_RunProtocol.ev (S : ByteArray) (a b : Int) {r : Int × Int × Bool} (hr : (match protOf S with | some T => if (inR 2 a && inR 2 b) = true then ((T.run a.toNat b.toNat).1, (((T.run a.toNat b.toNat).2 : Nat) : Int), true) else (0, 0, false) | none => (0, 0, false)) = r) : Ev (fun k => spec_RunProtocol.f k S a b) r := by
  have h1 := spec_IsProtocol.ev S
  have hin : ∀ x : Int, spec_l1In.f x 0 3 = some (inR 2 x) := fun x => by
    rw [spec_l1In.ev]; unfold inR; congr 1
    have : ((2 ^ 2 : Nat) : Int) = 4 := by decide
    exact decide_eq_decide.mpr (by omega)
  have hf : ∀ k, spec_RunProtocol.f k S a b = (spec_IsProtocol.f k S).bind fun t => if t = true then (if inR 2 a = true then spec_RunProtocol.j0 k S a b (!(inR 2 b)) else spec_RunProtocol.j0 k S a b true) else spec_RunProtocol.j0 k S a b true := fun k => by
    unfold spec_RunProtocol.f
    rw [hin, hin]; rfl
  refine Ev.congr (fun k => hf k) (Ev.bind h1 ?_)
  cases hq : protOf S with
  | none =>
    rw [hq] at hr
    subst hr
    exact Ev.congr (fun k => if_neg (by decide)) spec_RunProtocol.bad
  | some T =>
    rw [hq] at hr
    have hr : (if (inR 2 a && inR 2 b) = true then ((T.run a.toNat b.toNat).1, (((T.run a.toNat b.toNat).2 : Nat) : Int), true) else (0, 0, false)) = r := hr
    obtain ⟨a1, a2, a3⟩ := protOf_some hq
    refine Ev.congr (fun k => if_pos rfl) ?_
    cases ha : inR 2 a with
    | false =>
      rw [ha, Bool.false_and, if_neg (by decide)] at hr
      subst hr
      exact Ev.congr (fun k => if_neg (by decide)) spec_RunProtocol.bad
    | true =>
      refine Ev.congr (fun k => if_pos rfl) ?_
      cases hb : inR 2 b with
      | false =>
        rw [ha, hb, if_neg (by decide)] at hr
        subst hr
        exact spec_RunProtocol.bad
      | true =>
        rw [ha, hb, if_pos (show (true && true) = true from rfl)] at hr
        obtain ⟨x, rfl, hx⟩ := inR_nat ha
        obtain ⟨y, rfl, hy⟩ := inR_nat hb
        rw [Int.toNat_natCast, Int.toNat_natCast] at hr
        have h := spec_RunProtocol.loop (S := S) hx hy (by omega) S.size 0 T S.size 0 (by omega) (by omega) (by omega) a3
        rw [Nat.zero_add, hr] at h
        refine Ev.step (fun q => ?_) h
        simp only [spec_RunProtocol.j0]
        rw [if_neg (by decide)]; rfl

/-! ### facts on laws_FnExactRunProtocol -/
--IMPORT M9
open Go.Proofs.Ytlcgappojmdgfaa.M in
theorem laws_FnExactRunProtocol.pure_ : laws_FnExactRunProtocol.Pure := by
  intro S a b _ _ _
  by_cases hl : S.size ≤ 1048576
  · obtain ⟨⟨r1, r2, r3⟩, hr⟩ : ∃ r, impl_RunProtocol.f S a b = some r := ⟨_, rfl⟩
    obtain ⟨K1, h1⟩ : ∃ K, ∀ k, K ≤ k → spec_RunProtocol.f k S a b = some (r1, r2, r3) := spec_RunProtocol.ev S a b (Option.some.inj hr)
    have hn : ¬ ((S.size : Int) > 1048576) := by omega
    refine ⟨K1, ?_⟩
    simp (disch := omega) only [laws_FnExactRunProtocol.f, h1, hr, hn, ↓reduceIte, Option.bind_some, bne_self_eq_false, Bool.false_eq_true]
  · exact ⟨0, by unfold laws_FnExactRunProtocol.f; rw [if_pos (by omega)]⟩

end Go.Proofs.Ytlcgappojmdgfaa.Print
