/- Functions of the given program as plain Lean functions, with proofs that their calls compute them, or lemmas on these. Laid by a program of this repo for the seat YtmdpjmcleckedaaDoor; Lean checks it. -/
import Derived.Test.YtmdpjmcleckedaaDoorKExactSmallestFormula0
import Derived.Test.YtmdpjmcleckedaaDoorKExactSmallestFormula2
import Derived.Test.YtmdpjmcleckedaaDoorKExactSmallestFormula3
import Derived.Test.YtmdpjmcleckedaaDoorKExactSmallestFormula4
import Derived.Test.YtmdpjmcleckedaaDoorKExactSmallestFormula5
import Derived.Test.YtmdpjmcleckedaaDoorKExactSmallestFormula9
import Derived.Test.YtmdpjmcleckedaaDoorKExactSmallestFormula12
import Derived.Test.YtmdpjmcleckedaaDoorKExactSmallestFormula13
import Derived.Test.YtmdpjmcleckedaaDoorKExactSmallestFormula16
import Derived.Test.YtmdpjmcleckedaaDoorKExactSmallestFormula17
import Derived.Test.YtmdpjmcleckedaaDoorM0
import Derived.Test.YtmdpjmcleckedaaDoorM25
import Derived.Test.YtmdpjmcleckedaaDoorM5
namespace Go.Proofs.YtmdpjmcleckedaaDoor.Print
open Go.RowKit Go.Proofs.YtmdpjmcleckedaaDoorW.PrintWords Go.Proofs.YtmdpjmcleckedaaDoorW.PrintLast Go.Proofs.YtmdpjmcleckedaaDoorW.PrintMore
attribute [local go_sem] max2_int min2_int max_two min_two max_three min_three max_four min_four   -- for this text's walks alone
set_option linter.unusedVariables false
set_option linter.unusedSimpArgs false

/-! ### facts on spec_l1In -/
theorem spec_l1In.ev (a b c : Int) : spec_l1In.f a b c = some (decide (b ≤ a ∧ a ≤ c)) := by
  unfold spec_l1In.f
  by_cases h : b ≤ a
  · rw [if_pos h]; simp [h]
  · rw [if_neg h]; simp [h]

/-! ### facts on spec_IsTable -/
--IMPORT M0
open Go.Proofs.YtmdpjmcleckedaaDoor.M in
theorem spec_IsTable.ev (a b : Int) : spec_IsTable.f a b = some (isT a b) := by
  unfold spec_IsTable.f isT
  rw [spec_l1In.ev]
  by_cases h : 0 ≤ a ∧ a ≤ 5
  · obtain ⟨n, rfl⟩ := nat_of h.1
    have hn : n ≤ 5 := by omega
    simp only [Option.bind_some, h, and_self, decide_true, if_true]
    rw [full_word hn, spec_l1In.ev]
    simp only [Option.bind_some, Int.toNat_natCast, h, true_and]
    congr 1
    apply decide_eq_decide.mpr
    omega
  · have h' : ¬ (0 ≤ a ∧ a ≤ 5 ∧ 0 ≤ b ∧ b < ((2 ^ 2 ^ a.toNat : Nat) : Int)) := fun e => h ⟨e.1, e.2.1⟩
    simp only [h, h', decide_false, Option.bind_some, Bool.false_eq_true, if_false]

/-! ### facts on spec_l2Full -/
--IMPORT M0
open Go.Proofs.YtmdpjmcleckedaaDoor.M in
theorem spec_l2Full.ev {n : Nat} (h : n ≤ 5) : spec_l2Full.f n = some (((2 ^ 2 ^ n : Nat) : Int) - 1) := by
  unfold spec_l2Full.f
  rw [if_pos (Int.natCast_nonneg n), full_word h]

/-! ### facts on spec_l22Write -/
--IMPORT M25
open Go.Proofs.YtmdpjmcleckedaaDoor.M in
theorem spec_l22Write.full {n : Nat} (hn : n ≤ 3) : spec_l2Full.f (n : Int) = some ((szN n : Int) - 1) := by
  unfold spec_l2Full.f
  rw [if_pos (Int.natCast_nonneg n), full_word (by omega)]; rfl
open Go.Proofs.YtmdpjmcleckedaaDoor.M in
theorem spec_l22Write.varE {n i : Nat} (hn : n ≤ 3) (hi : i < n) : Ev (fun q => spec_l2Variable.f q (n : Int) (i : Int)) ((szVar n i : Nat) : Int) := by
  have h : allB 4 (fun n => allB n fun i => decide (spec_l2Variable.f 10 (n : Int) (i : Int) = some ((szVar n i : Nat) : Int))) = true := by decide +kernel
  have h1 := of_decide_eq_true (allB_of (allB4 h hn) i hi)
  exact Ev.of (spec_l2Variable.mono _ _) h1
open Go.Proofs.YtmdpjmcleckedaaDoor.M in
theorem spec_l22Write.abc {i : Nat} (hi : i < 3) : ((⟨#[97, 98, 99, 100, 101]⟩ : ByteArray).extract (i : Int).toNat ((i + 1 : Nat) : Int).toNat) = ⟨#[UInt8.ofNat (97 + i)]⟩ := by
  have : i = 0 ∨ i = 1 ∨ i = 2 := by omega
  rcases this with rfl | rfl | rfl <;> rfl
open Go.Proofs.YtmdpjmcleckedaaDoor.M in
theorem spec_l22Write.let_step {n w i : Nat} {rest : Option ByteArray} {z : ByteArray} (hn : n ≤ 3) (hw : w < szN n) (hi : i < n) (hT : szT n w = 1) (h : Ev (fun q => spec_l22Write.l0 q (szL n) (n : Int) (w : Int) ((i + 1 : Nat) : Int)) (rest.getD z)) :
    Ev (fun q => spec_l22Write.l0 q (szL n) (n : Int) (w : Int) (i : Int)) (((smLet n w i).or rest).getD z) := by
  have hv := szVar_ok hn hi
  have hN : szN n ≤ 256 := by
    have h8 := Nat.pow_le_pow_right (show 0 < 2 by decide) hn
    have := Nat.pow_le_pow_right (show 0 < 2 by decide) (show 2 ^ n ≤ 8 by simpa using h8)
    simpa [szN] using this
  have b1 : (0 : Int) ≤ (i : Int) := by omega
  have b2 : (i : Int) ≤ ((i + 1 : Nat) : Int) := by omega
  have b3 : ((i + 1 : Nat) : Int) ≤ 5 := by omega
  have b4 : (i : Int) < (n : Int) := by omega
  have b5 : (0 : Int) ≤ (w : Int) := by omega
  have b6 : (w : Int) < ((szL n).length : Int) := by rw [szL_len]; omega
  have n1 : w ≠ szVar n i → ¬ (w : Int) = ((szVar n i : Nat) : Int) := by omega
  have n2 : w ≠ szN n - 1 - szVar n i → ¬ (w : Int) = ((szN n - 1 - szVar n i : Nat) : Int) := by omega
  have i3 : i < 3 := by omega
  have e2 : wrap64 ((szN n : Int) - 1 - (szVar n i : Nat)) = ((szN n - 1 - szVar n i : Nat) : Int) := by rw [w64 (by omega) (by omega)]; omega
  have e1 : wrap64 ((i : Int) + 1) = ((i + 1 : Nat) : Int) := by rw [w64 (by omega) (by omega)]; rfl
  clear hv hN
  refine Ev.step (f := fun q => spec_l22Write.j1 q (szL n) (n : Int) (w : Int) (i : Int) true) (fun q => ?_) ?_
  · simp only [spec_l22Write.l0]
    rw [if_pos b4, if_pos b5, if_pos b6, rd_szL hw, hT]; rfl
  · refine Ev.step (f := ?f) ?h ?k
    case h => intro q; simp only [spec_l22Write.j1]; rw [if_pos trivial]
    case k =>
      refine Ev.bind (spec_l22Write.varE hn hi) ?_
      unfold smLet
      by_cases c1 : w = szVar n i
      · refine Ev.congr (fun q => if_pos (by rw [← c1])) ?_
        rw [if_pos c1, e1]
        refine Ev.of_some (fun q => ?_)
        rw [if_pos b1, if_pos b2, if_pos b3, spec_l22Write.abc i3]; rfl
      · refine Ev.congr (fun q => if_neg (n1 c1)) ?_
        rw [if_neg c1]
        refine Ev.bind (Ev.const (spec_l22Write.full hn)) ?_
        refine Ev.bind (spec_l22Write.varE hn hi) ?_
        rw [e2]
        by_cases c2 : w = szN n - 1 - szVar n i
        · refine Ev.congr (fun q => if_pos (by rw [← c2])) ?_
          rw [if_pos c2, e1]
          refine Ev.of_some (fun q => ?_)
          rw [if_pos b1, if_pos b2, if_pos b3, spec_l22Write.abc i3, if_pos (by show 1 + 1 ≤ 9223372036854775807; decide)]; rfl
        · refine Ev.congr (fun q => if_neg (n2 c2)) ?_
          rw [if_neg c2, e1]
          exact h
open Go.Proofs.YtmdpjmcleckedaaDoor.M in
theorem spec_l22Write.lets {n w : Nat} {R : Option ByteArray} {z : ByteArray} (hn : n ≤ 3) (hw : w < szN n) (h : Ev (fun q => spec_l22Write.l1 q (szL n) (n : Int) (w : Int) 0) (R.getD z)) :
    Ev (fun q => spec_l22Write.l0 q (szL n) (n : Int) (w : Int) 0) (((smL n w).or R).getD z) := by
  have hend : Ev (fun q => spec_l22Write.l0 q (szL n) (n : Int) (w : Int) (n : Int)) (R.getD z) := by
    refine Ev.step (f := fun q => spec_l22Write.j1 q (szL n) (n : Int) (w : Int) (n : Int) false) (fun q => ?_) ?_
    · simp only [spec_l22Write.l0]; rw [if_neg (by omega)]
    · refine Ev.step (f := fun q => spec_l22Write.l1 q (szL n) (n : Int) (w : Int) 0) (fun q => ?_) h
      simp only [spec_l22Write.j1]; rw [if_neg (by decide)]
  unfold smL
  by_cases hT : szT n w = 1
  · rw [if_pos hT]
    exact scan_loop (fun q i => spec_l22Write.l0 q (szL n) (n : Int) (w : Int) (i : Int)) (smLet n w) n z R (fun i rest hi hr => spec_l22Write.let_step hn hw hi hT hr) hend n 0 (by omega)
  · rw [if_neg hT]
    by_cases h0 : n = 0
    · subst h0; exact hend
    · refine Ev.step (f := fun q => spec_l22Write.j1 q (szL n) (n : Int) (w : Int) 0 false) (fun q => ?_) ?_
      · simp only [spec_l22Write.l0]
        rw [if_pos (by omega), if_pos (by omega), if_pos (by rw [szL_len]; omega), rd_szL hw]
        congr 1
        rw [beq_eq_false_iff_ne]; omega
      · refine Ev.step (f := fun q => spec_l22Write.l1 q (szL n) (n : Int) (w : Int) 0) (fun q => ?_) h
        simp only [spec_l22Write.j1]; rw [if_neg (by decide)]
open Go.Proofs.YtmdpjmcleckedaaDoor.M in
/-- what the words' texts are told to be, for all words of smaller size -/
def spec_l22Write.IH (n k : Nat) : Prop := ∀ a : Nat, a < szN n → szT n a < k → Ev (fun q => spec_l22Write.f q (szL n) (n : Int) (a : Int)) (smT n k a)
open Go.Proofs.YtmdpjmcleckedaaDoor.M in
theorem spec_l22Write.szN_le {n : Nat} (hn : n ≤ 3) : szN n ≤ 256 := by
  have h8 := Nat.pow_le_pow_right (show 0 < 2 by decide) hn
  have := Nat.pow_le_pow_right (show 0 < 2 by decide) (show 2 ^ n ≤ 8 by simpa using h8)
  simpa [szN] using this
open Go.Proofs.YtmdpjmcleckedaaDoor.M in
theorem spec_l22Write.hit {n w k o a b : Nat} {p : ByteArray} {g : Nat → Option ByteArray} {r : Option ByteArray} (hk : k ≤ 12) (hp : p.size = 1) (ha : Ev (fun q => spec_l22Write.f q (szL n) (n : Int) (a : Int)) (smT n k a)) (hb : Ev (fun q => spec_l22Write.f q (szL n) (n : Int) (b : Int)) (smT n k b)) :
    Ev (fun q => (spec_l22Write.f q (szL n) (n : Int) (a : Int)).bind fun t => if 1 + t.size ≤ 9223372036854775807 then ((spec_l22Write.f q (szL n) (n : Int) (b : Int)).bind fun u => if (p ++ t).size + u.size ≤ 9223372036854775807 then some ((p ++ t) ++ u) else none) else none) (p ++ smT n k a ++ smT n k b) := by
  have h1 := smT_short n a hk
  have h2 := smT_short n b hk
  refine Ev.bind ha ?_
  refine Ev.congr (fun q => if_pos (by omega)) ?_
  refine Ev.bind hb ?_
  refine Ev.congr (fun q => if_pos (by rw [ByteArray.size_append]; omega)) ?_
  exact Ev.now _
open Go.Proofs.YtmdpjmcleckedaaDoor.M in
theorem spec_l22Write.b_step {n w k o a b : Nat} {rest : Option ByteArray} (hn : n ≤ 3) (hk : k ≤ 12) (ih : spec_l22Write.IH n k) (hw : w < szN n) (hwk : szT n w < k + 1) (ho : o < 2) (ha1 : 1 ≤ a) (ha2 : a < szN n - 1) (hb1 : 1 ≤ b) (hb2 : b < szN n - 1) (haw : szT n a < szT n w)
    (h : Ev (fun q => spec_l22Write.l3 q (szL n) (n : Int) (w : Int) (o : Int) (a : Int) ((b + 1 : Nat) : Int)) (rest.getD ⟨#[]⟩)) :
    Ev (fun q => spec_l22Write.l3 q (szL n) (n : Int) (w : Int) (o : Int) (a : Int) (b : Int)) (((smR n w k o a b).or rest).getD ⟨#[]⟩) := by
  have hN := spec_l22Write.szN_le hn
  have za : szT n a ≠ 0 := by rw [Ne, szT_zero hn (by omega)]; omega
  have zb : szT n b ≠ 0 := by rw [Ne, szT_zero hn (by omega)]; omega
  have ta := szT_le hn (w := a) (by omega)
  have tb := szT_le hn (w := b) (by omega)
  have wa : a < szN n := by omega
  have wb : b < szN n := by omega
  have a63 : a < 2 ^ 63 := by omega
  have b63 : b < 2 ^ 63 := by omega
  have c1 : (b : Int) < (szN n : Int) - 1 := by omega
  have c2 : (0 : Int) ≤ (a : Int) := by omega
  have c3 : (a : Int) < ((szL n).length : Int) := by rw [szL_len]; omega
  have c4 : (0 : Int) ≤ (b : Int) := by omega
  have c5 : (b : Int) < ((szL n).length : Int) := by rw [szL_len]; omega
  have c6 : (0 : Int) ≤ (w : Int) := by omega
  have c7 : (w : Int) < ((szL n).length : Int) := by rw [szL_len]; omega
  have es : szT n a + szT n b = szT n w ↔ ((szT n a + szT n b : Nat) : Int) = (szT n w : Int) := by omega
  have hab : szT n a + szT n b = szT n w → szT n a < k ∧ szT n b < k := by omega
  have ro : o = 0 ∨ o = 1 := by omega
  have eb : ∀ x y : Nat, (((x : Nat) : Int) == (y : Int)) = decide (x = y) := fun x y => by rw [Bool.eq_iff_iff, beq_iff_eq, decide_eq_true_eq]; omega
  have ew : wrap64 ((szT n a : Int) + (szT n b : Int)) = ((szT n a + szT n b : Nat) : Int) := by rw [w64 (by omega) (by omega)]; omega
  have e1 : wrap64 ((b : Int) + 1) = ((b + 1 : Nat) : Int) := by rw [w64 (by omega) (by omega)]; rfl
  clear ta tb hN
  by_cases s : szT n a + szT n b = szT n w
  · obtain ⟨ka, kb⟩ := hab s
    refine Ev.step (f := fun q => spec_l22Write.j5 q (szL n) (n : Int) (w : Int) (o : Int) (a : Int) (b : Int) (decide (o = 0) && decide (a &&& b = w))) (fun q => ?_) ?_
    · simp only [spec_l22Write.l3]
      rw [spec_l22Write.full hn, Option.bind_some, if_pos c1, if_pos c2, if_pos c3, if_pos c4, if_pos c5, if_pos c6, if_pos c7, rd_szL wa, rd_szL wb, rd_szL hw, ew, if_pos (es.mp s)]
      rcases ro with rfl | rfl
      · rw [if_pos (show ((0 : Nat) : Int) = 0 from rfl), and_nat a63 b63, eb]; rfl
      · rw [if_neg (show ¬ ((1 : Nat) : Int) = 0 by decide)]; rfl
    · have key : ∀ x, x = (decide (o = 0) && decide (a &&& b = w)) → Ev (fun q => spec_l22Write.j5 q (szL n) (n : Int) (w : Int) (o : Int) (a : Int) (b : Int) x) (((smR n w k o a b).or rest).getD ⟨#[]⟩) := by
        intro x hx
        cases x with
        | true =>
          have hx' := hx.symm
          rw [Bool.and_eq_true, decide_eq_true_eq, decide_eq_true_eq] at hx'
          obtain ⟨rfl, h2⟩ := hx'
          have hr : smR n w k 0 a b = some (smOp 0 ++ smT n k a ++ smT n k b) := if_pos ⟨za, haw, zb, s, by rw [if_pos rfl]; exact h2⟩
          rw [hr]
          refine Ev.step (f := ?f1) ?h1 ?k1
          case h1 => intro q; simp only [spec_l22Write.j5]; rw [if_pos trivial]
          case k1 => exact spec_l22Write.hit (o := 0) (g := fun _ => none) (r := none) (w := w) hk rfl (ih a wa ka) (ih b wb kb)
        | false =>
          refine Ev.step (f := fun q => spec_l22Write.j6 q (szL n) (n : Int) (w : Int) (o : Int) (a : Int) (b : Int) (decide (o = 1) && decide (a ||| b = w))) (fun q => ?_) ?_
          · simp only [spec_l22Write.j5]
            rw [if_neg (by decide)]
            rcases ro with rfl | rfl
            · rw [if_neg (show ¬ ((0 : Nat) : Int) = 1 by decide)]; rfl
            · rw [if_pos (show ((1 : Nat) : Int) = 1 from rfl), or_nat a63 b63, eb]; rfl
          · have key2 : ∀ y, y = (decide (o = 1) && decide (a ||| b = w)) → Ev (fun q => spec_l22Write.j6 q (szL n) (n : Int) (w : Int) (o : Int) (a : Int) (b : Int) y) (((smR n w k o a b).or rest).getD ⟨#[]⟩) := by
              intro y hy
              cases y with
              | true =>
                have hy' := hy.symm
                rw [Bool.and_eq_true, decide_eq_true_eq, decide_eq_true_eq] at hy'
                obtain ⟨rfl, h2⟩ := hy'
                have hr : smR n w k 1 a b = some (smOp 1 ++ smT n k a ++ smT n k b) := if_pos ⟨za, haw, zb, s, by rw [if_neg (by decide)]; exact h2⟩
                rw [hr]
                refine Ev.step (f := ?f2) ?h2 ?k2
                case h2 => intro q; simp only [spec_l22Write.j6]; rw [if_pos trivial]
                case k2 => exact spec_l22Write.hit (o := 0) (g := fun _ => none) (r := none) (w := w) hk rfl (ih a wa ka) (ih b wb kb)
              | false =>
                have hr : smR n w k o a b = none := by
                  refine if_neg ?_
                  rintro ⟨_, _, _, _, h5⟩
                  rcases ro with rfl | rfl
                  · rw [if_pos rfl] at h5; rw [h5] at hx; simp at hx
                  · rw [if_neg (by decide)] at h5; rw [h5] at hy; simp at hy
                rw [hr]
                refine Ev.step (f := fun q => spec_l22Write.l3 q (szL n) (n : Int) (w : Int) (o : Int) (a : Int) ((b + 1 : Nat) : Int)) (fun q => ?_) h
                simp only [spec_l22Write.j6]
                rw [if_neg (by decide), e1]
            exact key2 _ rfl
      exact key _ rfl
  · have hr : smR n w k o a b = none := smR_none (.inr (.inr (.inr s)))
    rw [hr]
    refine Ev.step (f := fun q => spec_l22Write.l3 q (szL n) (n : Int) (w : Int) (o : Int) (a : Int) ((b + 1 : Nat) : Int)) (fun q => ?_) h
    simp only [spec_l22Write.l3]
    rw [spec_l22Write.full hn, Option.bind_some, if_pos c1, if_pos c2, if_pos c3, if_pos c4, if_pos c5, if_pos c6, if_pos c7, rd_szL wa, rd_szL wb, rd_szL hw, ew, if_neg (fun hc => s (es.mpr hc)), e1]
open Go.Proofs.YtmdpjmcleckedaaDoor.M in
theorem spec_l22Write.a_step {n w k o a : Nat} {rest : Option ByteArray} (hn : n ≤ 3) (hk : k ≤ 12) (ih : spec_l22Write.IH n k) (hw : w < szN n) (hwk : szT n w < k + 1) (ho : o < 2) (ha1 : 1 ≤ a) (ha2 : a < szN n - 1)
    (h : Ev (fun q => spec_l22Write.l2 q (szL n) (n : Int) (w : Int) (o : Int) ((a + 1 : Nat) : Int)) (rest.getD ⟨#[]⟩)) :
    Ev (fun q => spec_l22Write.l2 q (szL n) (n : Int) (w : Int) (o : Int) (a : Int)) (((smA n w k o a).or rest).getD ⟨#[]⟩) := by
  have hN := spec_l22Write.szN_le hn
  have hN2 := @szN_pos n
  have wa : a < szN n := by omega
  have c1 : (a : Int) < (szN n : Int) - 1 := by omega
  have c2 : (0 : Int) ≤ (a : Int) := by omega
  have c3 : (a : Int) < ((szL n).length : Int) := by rw [szL_len]; omega
  have c6 : (0 : Int) ≤ (w : Int) := by omega
  have c7 : (w : Int) < ((szL n).length : Int) := by rw [szL_len]; omega
  have cx : ¬ (((szN n - 1 : Nat) : Int) < (szN n : Int) - 1) := by omega
  have ng : szT n a < szT n w → ¬ ((szT n a : Int) ≥ (szT n w : Int)) := by omega
  have pg : ¬ szT n a < szT n w → (szT n a : Int) ≥ (szT n w : Int) := by omega
  have e1 : wrap64 ((a : Int) + 1) = ((a + 1 : Nat) : Int) := by rw [w64 (by omega) (by omega)]; rfl
  by_cases haw : szT n a < szT n w
  · have hend : Ev (fun q => spec_l22Write.l3 q (szL n) (n : Int) (w : Int) (o : Int) (a : Int) ((szN n - 1 : Nat) : Int)) (rest.getD ⟨#[]⟩) := by
      refine Ev.step (f := fun q => spec_l22Write.l2 q (szL n) (n : Int) (w : Int) (o : Int) ((a + 1 : Nat) : Int)) (fun q => ?_) h
      simp only [spec_l22Write.l3]
      rw [spec_l22Write.full hn, Option.bind_some, if_neg cx, e1]
    rw [smA_trim hn]
    have key := scan_loop (fun q b => spec_l22Write.l3 q (szL n) (n : Int) (w : Int) (o : Int) (a : Int) (b + 1 : Nat)) (fun b => smR n w k o a (b + 1)) (szN n - 2) (⟨#[]⟩ : ByteArray) rest
      (fun b rst hb hr => spec_l22Write.b_step hn hk ih hw hwk ho ha1 ha2 (by omega) (by omega) haw hr) (by rw [show szN n - 2 + 1 = szN n - 1 by omega]; exact hend) (szN n - 2) 0 (by omega)
    have esh : ∀ d i, scan (fun b => smR n w k o a (b + 1)) i d = scan (smR n w k o a) (i + 1) d := by
      intro d
      induction d with
      | zero => intro i; rfl
      | succ d ihd => intro i; show (smR n w k o a (i + 1)).or _ = (smR n w k o a (i + 1)).or _; rw [ihd]
    rw [esh] at key
    refine Ev.step (f := fun q => spec_l22Write.l3 q (szL n) (n : Int) (w : Int) (o : Int) (a : Int) 1) (fun q => ?_) key
    simp only [spec_l22Write.l2]
    rw [spec_l22Write.full hn, Option.bind_some, if_pos c1, if_pos c2, if_pos c3, if_pos c6, if_pos c7, rd_szL wa, rd_szL hw, if_neg (ng haw)]
  · rw [smA_none (.inr (by omega))]
    refine Ev.step (f := fun q => spec_l22Write.l2 q (szL n) (n : Int) (w : Int) (o : Int) ((a + 1 : Nat) : Int)) (fun q => ?_) h
    simp only [spec_l22Write.l2]
    rw [spec_l22Write.full hn, Option.bind_some, if_pos c1, if_pos c2, if_pos c3, if_pos c6, if_pos c7, rd_szL wa, rd_szL hw, if_pos (pg haw), e1]
open Go.Proofs.YtmdpjmcleckedaaDoor.M in
theorem spec_l22Write.o_step {n w k o : Nat} {rest : Option ByteArray} (hn : n ≤ 3) (hk : k ≤ 12) (ih : spec_l22Write.IH n k) (hw : w < szN n) (hwk : szT n w < k + 1) (ho : o < 2)
    (h : Ev (fun q => spec_l22Write.l1 q (szL n) (n : Int) (w : Int) ((o + 1 : Nat) : Int)) (rest.getD ⟨#[]⟩)) :
    Ev (fun q => spec_l22Write.l1 q (szL n) (n : Int) (w : Int) (o : Int)) (((smO n w k o).or rest).getD ⟨#[]⟩) := by
  have hN := spec_l22Write.szN_le hn
  have hN2 := @szN_pos n
  have cx : ¬ (((szN n - 1 : Nat) : Int) < (szN n : Int) - 1) := by omega
  have c1 : (o : Int) < 2 := by omega
  have e1 : wrap64 ((o : Int) + 1) = ((o + 1 : Nat) : Int) := by rw [w64 (by omega) (by omega)]; rfl
  have hend : Ev (fun q => spec_l22Write.l2 q (szL n) (n : Int) (w : Int) (o : Int) ((szN n - 1 : Nat) : Int)) (rest.getD ⟨#[]⟩) := by
    refine Ev.step (f := fun q => spec_l22Write.l1 q (szL n) (n : Int) (w : Int) ((o + 1 : Nat) : Int)) (fun q => ?_) h
    simp only [spec_l22Write.l2]
    rw [spec_l22Write.full hn, Option.bind_some, if_neg cx, e1]
  rw [smO_trim hn]
  have key := scan_loop (fun q a => spec_l22Write.l2 q (szL n) (n : Int) (w : Int) (o : Int) (a + 1 : Nat)) (fun a => smA n w k o (a + 1)) (szN n - 2) (⟨#[]⟩ : ByteArray) rest
    (fun a rst ha hr => spec_l22Write.a_step hn hk ih hw hwk ho (by omega) (by omega) hr) (by rw [show szN n - 2 + 1 = szN n - 1 by omega]; exact hend) (szN n - 2) 0 (by omega)
  have esh : ∀ d i, scan (fun a => smA n w k o (a + 1)) i d = scan (smA n w k o) (i + 1) d := by
    intro d
    induction d with
    | zero => intro i; rfl
    | succ d ihd => intro i; show (smA n w k o (i + 1)).or _ = (smA n w k o (i + 1)).or _; rw [ihd]
  rw [esh] at key
  refine Ev.step (f := fun q => spec_l22Write.l2 q (szL n) (n : Int) (w : Int) (o : Int) 1) (fun q => ?_) key
  simp only [spec_l22Write.l1]
  rw [if_pos c1]
open Go.Proofs.YtmdpjmcleckedaaDoor.M in
theorem spec_l22Write.pairs {n w k : Nat} (hn : n ≤ 3) (hk : k ≤ 12) (ih : spec_l22Write.IH n k) (hw : w < szN n) (hwk : szT n w < k + 1) :
    Ev (fun q => spec_l22Write.l1 q (szL n) (n : Int) (w : Int) 0) ((scan (smO n w k) 0 2).getD ⟨#[]⟩) := by
  have key := scan_loop (fun q o => spec_l22Write.l1 q (szL n) (n : Int) (w : Int) (o : Int)) (smO n w k) 2 (⟨#[]⟩ : ByteArray) none
    (fun o rst ho hr => spec_l22Write.o_step hn hk ih hw hwk ho hr) (Ev.end (fun q => by simp only [spec_l22Write.l1]; rw [if_neg (by decide)]; rfl)) 2 0 (by omega)
  rw [or_none_r] at key
  exact key
open Go.Proofs.YtmdpjmcleckedaaDoor.M in
theorem spec_l22Write.all {n : Nat} (hn : n ≤ 3) : ∀ k, k ≤ 12 → spec_l22Write.IH n k
  | 0, _, a, _, h => by omega
  | k + 1, hk, w, hw, hwk => by
    have ih := spec_l22Write.all hn k (by omega)
    have hN2 := @szN_pos n
    rw [smT_succ]
    by_cases h0 : w = 0
    · subst h0
      rw [if_pos rfl]
      exact Ev.end (fun q => by simp only [spec_l22Write.f]; rw [if_pos (by rfl)])
    · rw [if_neg h0]
      have h0' : ¬ (w : Int) = 0 := by omega
      by_cases h1 : w + 1 = szN n
      · rw [if_pos h1]
        have h1' : (w : Int) = (szN n : Int) - 1 := by omega
        exact Ev.end (fun q => by simp only [spec_l22Write.f]; rw [if_neg h0', spec_l22Write.full hn, Option.bind_some, if_pos h1'])
      · rw [if_neg h1]
        have h1' : ¬ (w : Int) = (szN n : Int) - 1 := by omega
        refine Ev.step (f := fun q => spec_l22Write.l0 q (szL n) (n : Int) (w : Int) 0) (fun q => by simp only [spec_l22Write.f]; rw [if_neg h0', spec_l22Write.full hn, Option.bind_some, if_neg h1']) ?_
        exact spec_l22Write.lets hn hw (spec_l22Write.pairs hn (by omega) ih hw hwk)
open Go.Proofs.YtmdpjmcleckedaaDoor.M in
theorem spec_l22Write.ev {n w : Nat} (hn : n ≤ 3) (hw : w < szN n) : Ev (fun q => spec_l22Write.f q (szL n) (n : Int) (w : Int)) (smT n 12 w) := spec_l22Write.all hn 12 (Nat.le_refl _) w hw (by have := szT_le hn hw; omega)

/-! ### facts on spec_SmallestFormula -/
--IMPORT M25
open Go.Proofs.YtmdpjmcleckedaaDoor.M in
/-- the text of a table's smallest formula -/
def spec_SmallestFormula.r (a b : Int) : ByteArray × Bool := if isT a b = true ∧ a ≤ 3 then (smT a.toNat 12 b.toNat, true) else (⟨#[]⟩, false)
open Go.Proofs.YtmdpjmcleckedaaDoor.M in
theorem spec_SmallestFormula.ev (a b : Int) : Ev (fun q => spec_SmallestFormula.f q a b) (spec_SmallestFormula.r a b) := by
  unfold spec_SmallestFormula.r spec_SmallestFormula.f
  refine Ev.bind (Ev.const (spec_IsTable.ev a b)) ?_
  cases ht : isT a b with
  | false =>
    rw [if_neg (by simp)]
    refine Ev.congr (fun q => if_neg (by simp)) ?_
    exact Ev.end (fun q => by simp only [spec_SmallestFormula.j0]; rw [if_pos trivial])
  | true =>
    refine Ev.congr (fun q => if_pos rfl) ?_
    obtain ⟨n, v, rfl, rfl, hn, hv⟩ := isT_nat ht
    by_cases h : (n : Int) ≤ 3
    · rw [if_pos ⟨rfl, h⟩, decide_eq_false (by omega)]
      refine Ev.step (f := ?f) ?h ?k
      case h => intro q; simp only [spec_SmallestFormula.j0]; rw [if_neg (by decide)]
      case k =>
        refine Ev.bind (Ev.const (r := szL n) ?_) ?_
        · unfold spec_l22Sizes.f
          rw [if_pos (by omega), Int.toNat_natCast]
        · refine Ev.bind (spec_l22Write.ev (by omega) hv) ?_
          exact Ev.now _
    · rw [if_neg (fun e => h e.2), decide_eq_true (by omega)]
      exact Ev.end (fun q => by simp only [spec_SmallestFormula.j0]; rw [if_pos trivial])

/-! ### facts on impl_isBits -/
theorem impl_isBits.ev (a : Int) : impl_isBits.f a = some (decide (0 ≤ a ∧ a ≤ 5)) := by
  unfold impl_isBits.f
  by_cases h : 0 ≤ a
  · rw [if_pos h]; simp [h]
  · rw [if_neg h]; simp [h]

/-! ### facts on impl_IsTable -/
--IMPORT M0
open Go.Proofs.YtmdpjmcleckedaaDoor.M in
theorem impl_IsTable.ev (a b : Int) : impl_IsTable.f a b = some (isT a b) := by
  unfold impl_IsTable.f isT
  rw [impl_isBits.ev]
  by_cases h : 0 ≤ a ∧ a ≤ 5
  · obtain ⟨n, rfl⟩ := nat_of h.1
    have hn : n ≤ 5 := by omega
    simp only [Option.bind_some, h, and_self, decide_true, if_true]
    by_cases hb : b ≥ 0
    · obtain ⟨v, rfl⟩ := nat_of hb
      have h5 := pow_le_5 hn
      rw [if_pos hb]
      unfold impl_Table_size.f
      rw [if_pos (Int.natCast_nonneg n), shl_one (by omega)]
      simp only [Option.bind_some]
      rw [if_pos (Int.natCast_nonneg _), shr_nat (by omega)]
      congr 1
      rw [Bool.eq_iff_iff]
      simp only [beq_iff_eq, decide_eq_true_eq, Int.toNat_natCast]
      have hz : v / 2 ^ 2 ^ n = 0 ↔ v < 2 ^ 2 ^ n := Nat.div_eq_zero_iff_lt (Nat.two_pow_pos _)
      rw [show (((v / 2 ^ 2 ^ n : Nat) : Int) = 0 ↔ v / 2 ^ 2 ^ n = 0) from by omega, hz]
      obtain ⟨P, hP⟩ : ∃ P, P = 2 ^ 2 ^ n := ⟨_, rfl⟩
      rw [← hP]
      simp only [h, true_and]
      omega
    · rw [if_neg hb]
      congr 1
      symm
      apply decide_eq_false
      omega
  · have h' : ¬ (0 ≤ a ∧ a ≤ 5 ∧ 0 ≤ b ∧ b < ((2 ^ 2 ^ a.toNat : Nat) : Int)) := fun e => h ⟨e.1, e.2.1⟩
    simp only [h, h', decide_false, Option.bind_some, Bool.false_eq_true, if_false]

/-! ### facts on impl_isSmall -/
--IMPORT M5
open Go.Proofs.YtmdpjmcleckedaaDoor.M in
theorem impl_isSmall.ev (a b m : Int) : impl_isSmall.f a b m = some (isT a b && decide (a ≤ m)) := by
  unfold impl_isSmall.f
  rw [impl_IsTable.ev, Option.bind_some]
  cases isT a b <;> simp

/-! ### facts on impl_Table_not -/
--IMPORT M0
open Go.Proofs.YtmdpjmcleckedaaDoor.M in
theorem impl_Table_not.ev {n v : Nat} (hn : n ≤ 5) (hv : v < 2 ^ 2 ^ n) : impl_Table_not.f n v = some ((n : Int), ((notW (2 ^ n) v : Nat) : Int)) := by
  have h5 := pow_le_5 hn
  have hf := full_p63 hn
  have hp := Nat.two_pow_pos (2 ^ n)
  unfold impl_Table_not.f impl_Table_size.f
  rw [if_pos (Int.natCast_nonneg n)]
  simp only [Option.bind_some]
  have hs : 0 ≤ shl .i64 1 (n : Int) := by rw [shl_one (by omega)]; exact Int.natCast_nonneg _
  rw [if_pos hs, full_word' hn]
  have e : ((2 ^ 2 ^ n : Nat) : Int) - 1 = ((2 ^ 2 ^ n - 1 : Nat) : Int) := by omega
  rw [e, xor_nat (by omega) (by omega)]; rfl

/-! ### facts on impl_Table_smallest -/
--IMPORT M25
open Go.Proofs.YtmdpjmcleckedaaDoor.M in
theorem impl_Table_smallest.szN_le {n : Nat} (hn : n ≤ 3) : szN n ≤ 256 := by
  have h8 := Nat.pow_le_pow_right (show 0 < 2 by decide) hn
  have := Nat.pow_le_pow_right (show 0 < 2 by decide) (show 2 ^ n ≤ 8 by simpa using h8)
  simpa [szN] using this
open Go.Proofs.YtmdpjmcleckedaaDoor.M in
theorem impl_Table_smallest.notE {n v : Nat} (hn : n ≤ 3) (hv : v < szN n) : impl_Table_not.f (n : Int) (v : Int) = some ((n : Int), ((v ^^^ (szN n - 1) : Nat) : Int)) := impl_Table_not.ev (by omega) hv
open Go.Proofs.YtmdpjmcleckedaaDoor.M in
theorem impl_Table_smallest.varE {n i : Nat} (hn : n ≤ 3) (hi : i < n) : impl_variable.f (n : Int) (i : Int) = some ((n : Int), ((szVar n i : Nat) : Int)) := by
  unfold impl_variable.f
  rw [if_pos ⟨by omega, by omega, by omega, by omega⟩]; rfl
theorem impl_Table_smallest.lett {i : Nat} (hi : i < 3) : strOfNums [(97 + ((i : Int) % 256)) % 256] = ⟨#[UInt8.ofNat (97 + i)]⟩ := by
  have : i = 0 ∨ i = 1 ∨ i = 2 := by omega
  rcases this with rfl | rfl | rfl <;> rfl
open Go.Proofs.YtmdpjmcleckedaaDoor.M in
theorem impl_Table_smallest.let_step {n w i : Nat} {rest : Option ByteArray} {z : ByteArray} (hn : n ≤ 3) (hw : w < szN n) (hi : i < n) (h : Ev (fun q => impl_Table_smallest.l0 q (szL n) (n : Int) ((i + 1 : Nat) : Int) (n : Int) (w : Int)) (rest.getD z)) :
    Ev (fun q => impl_Table_smallest.l0 q (szL n) (n : Int) (i : Int) (n : Int) (w : Int)) (((smLet n w i).or rest).getD z) := by
  have hv := szVar_ok hn hi
  have b4 : (i : Int) < (n : Int) := by omega
  have i3 : i < 3 := by omega
  have eb : ∀ x y : Nat, (((x : Nat) : Int) == (y : Int)) = decide (x = y) := fun x y => by rw [Bool.eq_iff_iff, beq_iff_eq, decide_eq_true_eq]; omega
  have e1 : wrap64 ((i : Int) + 1) = ((i + 1 : Nat) : Int) := by rw [w64 (by omega) (by omega)]; rfl
  refine Ev.step (f := ?f) ?h ?k
  case h =>
    intro q; simp only [impl_Table_smallest.l0]
    rw [if_pos b4, Option.bind_some, impl_Table_smallest.varE hn hi, Option.bind_some, impl_Table_smallest.lett i3]
  case k =>
    show Ev (fun q => if (((n : Int) == (n : Int)) && ((w : Int) == ((szVar n i : Nat) : Int))) = true then _ else (impl_Table_not.f (n : Int) ((szVar n i : Nat) : Int)).bind _) _
    simp only [beq_self_eq_true, Bool.true_and, eb, impl_Table_smallest.notE hn hv.1, Option.bind_some, hv.2.2.2]
    unfold smLet
    by_cases c1 : w = szVar n i
    · rw [if_pos c1]
      exact Ev.congr (fun q => if_pos (decide_eq_true c1)) (Ev.now _)
    · rw [if_neg c1]
      refine Ev.congr (fun q => if_neg (by rw [decide_eq_true_eq]; exact c1)) ?_
      by_cases c2 : w = szN n - 1 - szVar n i
      · rw [if_pos c2]
        refine Ev.congr (fun q => if_pos (decide_eq_true c2)) ?_
        refine Ev.congr (fun q => if_pos (by show 1 + 1 ≤ 9223372036854775807; decide)) ?_
        exact Ev.now _
      · rw [if_neg c2]
        refine Ev.congr (fun q => if_neg (by rw [decide_eq_true_eq]; exact c2)) ?_
        rw [e1]
        exact h
open Go.Proofs.YtmdpjmcleckedaaDoor.M in
theorem impl_Table_smallest.lets {n w : Nat} {R : Option ByteArray} {z : ByteArray} (hn : n ≤ 3) (hw : w < szN n) (h : Ev (fun q => impl_Table_smallest.j1 q (szL n) (n : Int) (w : Int)) (R.getD z)) :
    Ev (fun q => if (szT n w : Int) = 1 then impl_Table_smallest.l0 q (szL n) (n : Int) 0 (n : Int) (w : Int) else impl_Table_smallest.j1 q (szL n) (n : Int) (w : Int)) (((smL n w).or R).getD z) := by
  have hend : Ev (fun q => impl_Table_smallest.l0 q (szL n) (n : Int) (n : Int) (n : Int) (w : Int)) (R.getD z) := by
    refine Ev.step (f := fun q => impl_Table_smallest.j1 q (szL n) (n : Int) (w : Int)) (fun q => ?_) h
    simp only [impl_Table_smallest.l0]; rw [if_neg (by omega)]
  unfold smL
  by_cases hT : szT n w = 1
  · rw [if_pos hT]
    refine Ev.congr (fun q => if_pos (by omega)) ?_
    exact scan_loop (fun q i => impl_Table_smallest.l0 q (szL n) (n : Int) (i : Int) (n : Int) (w : Int)) (smLet n w) n z R (fun i rest hi hr => impl_Table_smallest.let_step hn hw hi hr) hend n 0 (by omega)
  · rw [if_neg hT]
    exact Ev.congr (fun q => if_neg (by omega)) h
def impl_Table_smallest.opb (o : Nat) : Int := if o = 0 then 38 else 124
theorem impl_Table_smallest.opb_str {o : Nat} (ho : o < 2) : strOfNums [impl_Table_smallest.opb o] = Go.Proofs.YtmdpjmcleckedaaDoor.M.smOp o := by
  have : o = 0 ∨ o = 1 := by omega
  rcases this with rfl | rfl <;> rfl
theorem impl_Table_smallest.opb_rd {o : Nat} (ho : o < 2) : rd [38, 124] (o : Int) = impl_Table_smallest.opb o := by
  have : o = 0 ∨ o = 1 := by omega
  rcases this with rfl | rfl <;> rfl
open Go.Proofs.YtmdpjmcleckedaaDoor.M in
def impl_Table_smallest.IH (n k : Nat) : Prop := ∀ a : Nat, a < szN n → szT n a < k → Ev (fun q => impl_Table_smallest.f q (n : Int) (a : Int) (szL n)) (smT n k a)
open Go.Proofs.YtmdpjmcleckedaaDoor.M in
/-- the loops, with what stays as it is -/
def impl_Table_smallest.L2 (n w o : Nat) (q : Nat) (a : Int) := impl_Table_smallest.l2 q (szL n) (impl_Table_smallest.opb o) [38, 124] 2 (o : Int) (szL n) ((szL n).length : Int) a (n : Int) (w : Int)
open Go.Proofs.YtmdpjmcleckedaaDoor.M in
def impl_Table_smallest.L3 (n w o a : Nat) (q : Nat) (b : Int) := impl_Table_smallest.l3 q (szL n) (impl_Table_smallest.opb o) (a : Int) (szT n a : Int) [38, 124] 2 (o : Int) (szL n) ((szL n).length : Int) (a : Int) (szL n) ((szL n).length : Int) b (n : Int) (w : Int)
open Go.Proofs.YtmdpjmcleckedaaDoor.M in
theorem impl_Table_smallest.b_step {n w k o a b : Nat} {rest : Option ByteArray} (hn : n ≤ 3) (hk : k ≤ 12) (ih : impl_Table_smallest.IH n k) (hw : w < szN n) (hwk : szT n w < k + 1) (ho : o < 2) (wa : a < szN n) (za : szT n a ≠ 0) (wb : b < szN n) (haw : szT n a < szT n w)
    (h : Ev (fun q => impl_Table_smallest.L3 n w o a q ((b + 1 : Nat) : Int)) (rest.getD ⟨#[]⟩)) :
    Ev (fun q => impl_Table_smallest.L3 n w o a q (b : Int)) (((smR n w k o a b).or rest).getD ⟨#[]⟩) := by
  have hN := impl_Table_smallest.szN_le hn
  have ta := szT_le hn (w := a) wa
  have tb := szT_le hn (w := b) wb
  have a63 : a < 2 ^ 63 := by omega
  have b63 : b < 2 ^ 63 := by omega
  have c1 : (b : Int) < ((szL n).length : Int) := by rw [szL_len]; omega
  have c2 : (0 : Int) ≤ (b : Int) := by omega
  have c6 : (0 : Int) ≤ (w : Int) := by omega
  have c7 : (w : Int) < ((szL n).length : Int) := by rw [szL_len]; omega
  have es : szT n a + szT n b = szT n w ↔ ((szT n a + szT n b : Nat) : Int) = (szT n w : Int) := by omega
  have hab : szT n a + szT n b = szT n w → szT n b ≠ 0 → szT n a < k ∧ szT n b < k := by omega
  have gb : szT n b ≠ 0 ↔ (szT n b : Int) ≥ 1 := by omega
  have ro : o = 0 ∨ o = 1 := by omega
  have eb : ∀ x y : Nat, (((x : Nat) : Int) == (y : Int)) = decide (x = y) := fun x y => by rw [Bool.eq_iff_iff, beq_iff_eq, decide_eq_true_eq]; omega
  have ew : wrap64 ((szT n a : Int) + (szT n b : Int)) = ((szT n a + szT n b : Nat) : Int) := by rw [w64 (by omega) (by omega)]; omega
  have e1 : wrap64 ((b : Int) + 1) = ((b + 1 : Nat) : Int) := by rw [w64 (by omega) (by omega)]; rfl
  clear ta tb hN
  -- the last join
  have j7 : ∀ y : Bool, (y = true ↔ smFit n w o a b) → Ev (fun q => impl_Table_smallest.j7 q (szL n) (impl_Table_smallest.opb o) (a : Int) (szT n a : Int) (b : Int) [38, 124] 2 (o : Int) (szL n) ((szL n).length : Int) (a : Int) (szL n) ((szL n).length : Int) (b : Int) y (n : Int) (w : Int)) (((smR n w k o a b).or rest).getD ⟨#[]⟩) := by
    intro y hy
    cases y with
    | true =>
      have hf := hy.mp rfl
      obtain ⟨ka, kb⟩ := hab hf.2.2.2.1 hf.2.2.1
      have hr : smR n w k o a b = some (smOp o ++ smT n k a ++ smT n k b) := if_pos hf
      rw [hr]
      have h1 := smT_short n a hk
      have h2 := smT_short n b hk
      have hz : (smOp o).size = 1 := by rcases ro with rfl | rfl <;> rfl
      refine Ev.step (f := ?f1) ?h1 ?k1
      case h1 => intro q; simp only [impl_Table_smallest.j7]; rw [if_pos trivial, Option.bind_some, impl_Table_smallest.opb_str ho]
      case k1 =>
        refine Ev.bind (ih a wa ka) ?_
        refine Ev.congr (fun q => if_pos (by omega)) ?_
        refine Ev.bind (ih b wb kb) ?_
        refine Ev.congr (fun q => if_pos (by rw [ByteArray.size_append]; omega)) ?_
        exact Ev.now _
    | false =>
      have hr : smR n w k o a b = none := if_neg (fun hf => by cases hy.mpr hf)
      rw [hr]
      refine Ev.step (f := fun q => impl_Table_smallest.L3 n w o a q ((b + 1 : Nat) : Int)) (fun q => ?_) h
      simp only [impl_Table_smallest.j7, impl_Table_smallest.L3]
      rw [if_neg (by decide), e1]
  -- the join with what the pair makes
  have j6 : ∀ x : Nat, x = (if o = 0 then a &&& b else a ||| b) → Ev (fun q => impl_Table_smallest.j6 q (szL n) (impl_Table_smallest.opb o) (a : Int) (szT n a : Int) (b : Int) (szT n b : Int) (x : Int) [38, 124] 2 (o : Int) (szL n) ((szL n).length : Int) (a : Int) (szL n) ((szL n).length : Int) (b : Int) (n : Int) (w : Int)) (((smR n w k o a b).or rest).getD ⟨#[]⟩) := by
    intro x hx
    by_cases zb : szT n b = 0
    · refine Ev.step (f := ?f2) ?h2 ?k2
      case h2 => intro q; simp only [impl_Table_smallest.j6]; rw [if_neg (fun hc => absurd zb (gb.mpr hc))]
      case k2 => exact j7 false ⟨fun hc => (by cases hc), fun hf => absurd zb hf.2.2.1⟩
    · by_cases s : szT n a + szT n b = szT n w
      · refine Ev.step (f := ?f3) ?h3 ?k3
        case h3 => intro q; simp only [impl_Table_smallest.j6]; rw [if_pos (gb.mp zb), if_pos c6, if_pos c7, rd_szL hw, ew, if_pos (es.mp s), eb]
        case k3 =>
          refine j7 _ ?_
          rw [decide_eq_true_eq]
          exact ⟨fun hc => ⟨za, haw, zb, s, by rw [← hx]; exact hc⟩, fun hf => by rw [hx]; exact hf.2.2.2.2⟩
      · refine Ev.step (f := ?f4) ?h4 ?k4
        case h4 => intro q; simp only [impl_Table_smallest.j6]; rw [if_pos (gb.mp zb), if_pos c6, if_pos c7, rd_szL hw, ew, if_neg (fun hc => s (es.mpr hc))]
        case k4 => exact j7 false ⟨fun hc => (by cases hc), fun hf => absurd hf.2.2.2.1 s⟩
  rcases ro with rfl | rfl
  · have hj := j6 (a &&& b) rfl
    rw [← and_nat a63 b63] at hj
    refine Ev.step (fun q => ?_) hj
    simp only [impl_Table_smallest.L3, impl_Table_smallest.l3]
    rw [if_pos c1, if_pos c2, if_pos c1, if_neg (by decide), rd_szL wb]
  · have hj := j6 (a ||| b) rfl
    rw [← or_nat a63 b63] at hj
    refine Ev.step (fun q => ?_) hj
    simp only [impl_Table_smallest.L3, impl_Table_smallest.l3]
    rw [if_pos c1, if_pos c2, if_pos c1, if_pos (by rfl), rd_szL wb]
open Go.Proofs.YtmdpjmcleckedaaDoor.M in
theorem impl_Table_smallest.a_step {n w k o a : Nat} {rest : Option ByteArray} (hn : n ≤ 3) (hk : k ≤ 12) (ih : impl_Table_smallest.IH n k) (hw : w < szN n) (hwk : szT n w < k + 1) (ho : o < 2) (wa : a < szN n)
    (h : Ev (fun q => impl_Table_smallest.L2 n w o q ((a + 1 : Nat) : Int)) (rest.getD ⟨#[]⟩)) :
    Ev (fun q => impl_Table_smallest.L2 n w o q (a : Int)) (((smA n w k o a).or rest).getD ⟨#[]⟩) := by
  have hN := impl_Table_smallest.szN_le hn
  have c1 : (a : Int) < ((szL n).length : Int) := by rw [szL_len]; omega
  have c2 : (0 : Int) ≤ (a : Int) := by omega
  have c6 : (0 : Int) ≤ (w : Int) := by omega
  have c7 : (w : Int) < ((szL n).length : Int) := by rw [szL_len]; omega
  have cx : ¬ ((szN n : Int) < ((szL n).length : Int)) := by rw [szL_len]; omega
  have g0 : szT n a = 0 → (szT n a : Int) < 1 := by omega
  have g1 : szT n a ≠ 0 → ¬ (szT n a : Int) < 1 := by omega
  have gw : decide ((szT n a : Int) ≥ (szT n w : Int)) = decide (szT n w ≤ szT n a) := by rw [decide_eq_decide]; omega
  have e1 : wrap64 ((a : Int) + 1) = ((a + 1 : Nat) : Int) := by rw [w64 (by omega) (by omega)]; rfl
  have j4 : ∀ y : Bool, (y = true → smA n w k o a = none) → (y = false → szT n a ≠ 0 ∧ szT n a < szT n w) → Ev (fun q => impl_Table_smallest.j4 q (szL n) (impl_Table_smallest.opb o) (a : Int) (szT n a : Int) [38, 124] 2 (o : Int) (szL n) ((szL n).length : Int) (a : Int) y (n : Int) (w : Int)) (((smA n w k o a).or rest).getD ⟨#[]⟩) := by
    intro y h1 h2
    cases y with
    | true =>
      rw [h1 rfl]
      refine Ev.step (f := fun q => impl_Table_smallest.L2 n w o q ((a + 1 : Nat) : Int)) (fun q => ?_) h
      simp only [impl_Table_smallest.j4, impl_Table_smallest.L2]
      rw [if_pos trivial, e1]
    | false =>
      obtain ⟨za, haw⟩ := h2 rfl
      have hend : Ev (fun q => impl_Table_smallest.L3 n w o a q (szN n : Int)) (rest.getD ⟨#[]⟩) := by
        refine Ev.step (f := fun q => impl_Table_smallest.L2 n w o q ((a + 1 : Nat) : Int)) (fun q => ?_) h
        simp only [impl_Table_smallest.L3, impl_Table_smallest.l3, impl_Table_smallest.L2]
        rw [if_neg cx, e1]
      have key := scan_loop (fun q b => impl_Table_smallest.L3 n w o a q (b : Int)) (smR n w k o a) (szN n) (⟨#[]⟩ : ByteArray) rest (fun b rst hb hr => impl_Table_smallest.b_step hn hk ih hw hwk ho wa za hb haw hr) hend (szN n) 0 (by omega)
      refine Ev.step (f := fun q => impl_Table_smallest.L3 n w o a q 0) (fun q => ?_) key
      simp only [impl_Table_smallest.j4, impl_Table_smallest.L3]
      rw [if_neg (by decide)]
  by_cases z : szT n a = 0
  · refine Ev.step (f := ?f1) ?h1 ?k1
    case h1 => intro q; simp only [impl_Table_smallest.L2, impl_Table_smallest.l2]; rw [if_pos c1, if_pos c2, if_pos c1, rd_szL wa, if_pos (g0 z)]
    case k1 => exact j4 true (fun _ => smA_none (.inl z)) (fun hc => by cases hc)
  · refine Ev.step (f := ?f2) ?h2 ?k2
    case h2 => intro q; simp only [impl_Table_smallest.L2, impl_Table_smallest.l2]; rw [if_pos c1, if_pos c2, if_pos c1, rd_szL wa, if_neg (g1 z), if_pos c6, if_pos c7, rd_szL hw, gw]
    case k2 => exact j4 _ (fun hc => smA_none (.inr (of_decide_eq_true hc))) (fun hc => ⟨z, Nat.lt_of_not_le (of_decide_eq_false hc)⟩)
open Go.Proofs.YtmdpjmcleckedaaDoor.M in
def impl_Table_smallest.L1 (n w : Nat) (q : Nat) (o : Int) := impl_Table_smallest.l1 q (szL n) [38, 124] 2 o (n : Int) (w : Int)
open Go.Proofs.YtmdpjmcleckedaaDoor.M in
theorem impl_Table_smallest.o_step {n w k o : Nat} {rest : Option ByteArray} (hn : n ≤ 3) (hk : k ≤ 12) (ih : impl_Table_smallest.IH n k) (hw : w < szN n) (hwk : szT n w < k + 1) (ho : o < 2)
    (h : Ev (fun q => impl_Table_smallest.L1 n w q ((o + 1 : Nat) : Int)) (rest.getD ⟨#[]⟩)) :
    Ev (fun q => impl_Table_smallest.L1 n w q (o : Int)) (((smO n w k o).or rest).getD ⟨#[]⟩) := by
  have cx : ¬ ((szN n : Int) < ((szL n).length : Int)) := by rw [szL_len]; omega
  have c1 : (o : Int) < 2 := by omega
  have c2 : (0 : Int) ≤ (o : Int) := by omega
  have c3 : (o : Int) < (([38, 124] : List Int).length : Int) := c1
  have e1 : wrap64 ((o : Int) + 1) = ((o + 1 : Nat) : Int) := by rw [w64 (by omega) (by omega)]; rfl
  have hend : Ev (fun q => impl_Table_smallest.L2 n w o q (szN n : Int)) (rest.getD ⟨#[]⟩) := by
    refine Ev.step (f := fun q => impl_Table_smallest.L1 n w q ((o + 1 : Nat) : Int)) (fun q => ?_) h
    simp only [impl_Table_smallest.L2, impl_Table_smallest.l2, impl_Table_smallest.L1]
    rw [if_neg cx, e1]
  have key := scan_loop (fun q a => impl_Table_smallest.L2 n w o q (a : Int)) (smA n w k o) (szN n) (⟨#[]⟩ : ByteArray) rest (fun a rst ha hr => impl_Table_smallest.a_step hn hk ih hw hwk ho ha hr) hend (szN n) 0 (by omega)
  refine Ev.step (f := fun q => impl_Table_smallest.L2 n w o q 0) (fun q => ?_) key
  simp only [impl_Table_smallest.L1, impl_Table_smallest.l1, impl_Table_smallest.L2]
  rw [if_pos c1, if_pos c2, if_pos c3, impl_Table_smallest.opb_rd ho]
open Go.Proofs.YtmdpjmcleckedaaDoor.M in
theorem impl_Table_smallest.pairs {n w k : Nat} (hn : n ≤ 3) (hk : k ≤ 12) (ih : impl_Table_smallest.IH n k) (hw : w < szN n) (hwk : szT n w < k + 1) :
    Ev (fun q => impl_Table_smallest.j1 q (szL n) (n : Int) (w : Int)) ((scan (smO n w k) 0 2).getD ⟨#[]⟩) := by
  have key := scan_loop (fun q o => impl_Table_smallest.L1 n w q (o : Int)) (smO n w k) 2 (⟨#[]⟩ : ByteArray) none
    (fun o rst ho hr => impl_Table_smallest.o_step hn hk ih hw hwk ho hr) (Ev.end (fun q => by simp only [impl_Table_smallest.L1, impl_Table_smallest.l1]; rw [if_neg (by decide)]; rfl)) 2 0 (by omega)
  rw [or_none_r] at key
  refine Ev.step (f := fun q => impl_Table_smallest.L1 n w q 0) (fun q => ?_) key
  simp only [impl_Table_smallest.j1, impl_Table_smallest.L1, Option.bind_some]
  rfl
open Go.Proofs.YtmdpjmcleckedaaDoor.M in
theorem impl_Table_smallest.ends {n : Nat} (hn : n ≤ 3) : (impl_Table_at.f (n : Int) ((szN n - 1 : Nat) : Int) 0).bind (fun t => (impl_FormatInt.f t).bind fun u => some u) = some ⟨#[49]⟩ := by
  have : n = 0 ∨ n = 1 ∨ n = 2 ∨ n = 3 := by omega
  rcases this with rfl | rfl | rfl | rfl <;> decide +kernel
open Go.Proofs.YtmdpjmcleckedaaDoor.M in
theorem impl_Table_smallest.start {n : Nat} (hn : n ≤ 3) : (impl_Table_at.f (n : Int) 0 0).bind (fun t => (impl_FormatInt.f t).bind fun u => some u) = some ⟨#[48]⟩ := by
  have : n = 0 ∨ n = 1 ∨ n = 2 ∨ n = 3 := by omega
  rcases this with rfl | rfl | rfl | rfl <;> decide +kernel
open Go.Proofs.YtmdpjmcleckedaaDoor.M in
theorem impl_Table_smallest.same {n w : Nat} (hn : n ≤ 3) (hw : w < szN n) : impl_Table_isSame.f (n : Int) (w : Int) = some (decide (w = 0) || decide (w + 1 = szN n)) := by
  unfold impl_Table_isSame.f
  by_cases h0 : w = 0
  · subst h0; rw [if_pos (show ((0 : Nat) : Int) = 0 from rfl)]; rfl
  · have h0' : ¬ (w : Int) = 0 := by omega
    rw [if_neg h0', impl_Table_smallest.notE hn hw, Option.bind_some, decide_eq_false h0, Bool.false_or]
    congr 1
    rw [Bool.eq_iff_iff, beq_iff_eq, decide_eq_true_eq]
    have hx : w ^^^ (szN n - 1) = 0 ↔ w = szN n - 1 := by
      constructor
      · intro h
        have h2 : (w ^^^ (szN n - 1)) ^^^ (szN n - 1) = w := by rw [Nat.xor_assoc, Nat.xor_self, Nat.xor_zero]
        rw [h, Nat.zero_xor] at h2
        exact h2.symm
      · intro h; rw [h, Nat.xor_self]
    have hp := @szN_pos n
    omega
open Go.Proofs.YtmdpjmcleckedaaDoor.M in
theorem impl_Table_smallest.all {n : Nat} (hn : n ≤ 3) : ∀ k, k ≤ 12 → impl_Table_smallest.IH n k
  | 0, _, a, _, h => by omega
  | k + 1, hk, w, hw, hwk => by
    have ih := impl_Table_smallest.all hn k (by omega)
    have hN2 := @szN_pos n
    rw [smT_succ]
    by_cases h0 : w = 0
    · subst h0
      rw [if_pos rfl]
      refine Ev.end (fun q => ?_)
      simp only [impl_Table_smallest.f]
      rw [impl_Table_smallest.same hn hw, Option.bind_some, if_pos (by rfl)]
      exact impl_Table_smallest.start hn
    · rw [if_neg h0]
      by_cases h1 : w + 1 = szN n
      · rw [if_pos h1]
        obtain rfl : w = szN n - 1 := by omega
        refine Ev.end (fun q => ?_)
        simp only [impl_Table_smallest.f]
        rw [impl_Table_smallest.same hn hw, Option.bind_some, if_pos (by rw [decide_eq_true h1, Bool.or_true])]
        exact impl_Table_smallest.ends hn
      · rw [if_neg h1]
        have c6 : (0 : Int) ≤ (w : Int) := by omega
        have c7 : (w : Int) < ((szL n).length : Int) := by rw [szL_len]; omega
        refine Ev.step (fun q => ?_) (impl_Table_smallest.lets hn hw (impl_Table_smallest.pairs hn (by omega) ih hw hwk))
        simp only [impl_Table_smallest.f]
        rw [impl_Table_smallest.same hn hw, Option.bind_some, decide_eq_false h0, decide_eq_false h1, if_neg (by decide), if_pos c6, if_pos c7, rd_szL hw]
open Go.Proofs.YtmdpjmcleckedaaDoor.M in
theorem impl_Table_smallest.ev {n w : Nat} (hn : n ≤ 3) (hw : w < szN n) : Ev (fun q => impl_Table_smallest.f q (n : Int) (w : Int) (szL n)) (smT n 12 w) := impl_Table_smallest.all hn 12 (Nat.le_refl _) w hw (by have := szT_le hn hw; omega)

/-! ### facts on impl_SmallestFormula -/
--IMPORT M25
open Go.Proofs.YtmdpjmcleckedaaDoor.M in
theorem impl_SmallestFormula.ev (a b : Int) : Ev (fun q => impl_SmallestFormula.f q a b) (spec_SmallestFormula.r a b) := by
  unfold spec_SmallestFormula.r impl_SmallestFormula.f
  refine Ev.bind (Ev.const (impl_isSmall.ev a b 3)) ?_
  cases ht : isT a b with
  | false =>
    rw [if_neg (by simp)]
    refine Ev.congr (fun q => if_neg (by simp)) ?_
    exact Ev.now _
  | true =>
    obtain ⟨n, v, rfl, rfl, hn, hv⟩ := isT_nat ht
    by_cases h : (n : Int) ≤ 3
    · rw [if_pos ⟨rfl, h⟩]
      refine Ev.congr (fun q => if_pos (by rw [decide_eq_true h]; rfl)) ?_
      refine Ev.bind (Ev.const (r := szL n) ?_) ?_
      · unfold impl_sizes.f
        rw [if_pos (by omega), Int.toNat_natCast]
      · refine Ev.bind (impl_Table_smallest.ev (by omega) hv) ?_
        exact Ev.now _
    · rw [if_neg (fun e => h e.2)]
      refine Ev.congr (fun q => if_neg (by rw [decide_eq_false h]; simp)) ?_
      exact Ev.now _

/-! ### facts on laws_FnExactSmallestFormula -/
--IMPORT M25
open Go.Proofs.YtmdpjmcleckedaaDoor.M in
theorem laws_FnExactSmallestFormula.pure_ : laws_FnExactSmallestFormula.Pure := by
  intro a b _ _
  have hs := spec_SmallestFormula.ev a b
  have hi := impl_SmallestFormula.ev a b
  obtain ⟨K1, h1⟩ := hs
  obtain ⟨K2, h2⟩ := hi
  refine ⟨max K1 K2, ?_⟩
  have e1 := h1 _ (Nat.le_max_left K1 K2)
  have e2 := h2 _ (Nat.le_max_right K1 K2)
  simp only at e1 e2
  generalize spec_SmallestFormula.r a b = r at e1 e2
  unfold laws_FnExactSmallestFormula.f
  unfold laws_toTable.f
  rw [Option.bind_some, e1, Option.bind_some, Option.bind_some, e2, Option.bind_some, if_pos rfl, if_neg (by simp)]

end Go.Proofs.YtmdpjmcleckedaaDoor.Print
