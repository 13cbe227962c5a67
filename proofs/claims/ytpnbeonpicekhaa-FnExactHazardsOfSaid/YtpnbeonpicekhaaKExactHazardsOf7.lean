/- Functions of the given program as plain Lean functions, with proofs that their calls compute them, or lemmas on these. Laid by a program of this repo for the seat Ytpnbeonpicekhaa; Lean checks it. -/
import Derived.Test.YtpnbeonpicekhaaKExactHazardsOf0
import Derived.Test.YtpnbeonpicekhaaKExactHazardsOf6
import Derived.Test.YtpnbeonpicekhaaM5
import Derived.Test.YtpnbeonpicekhaaM16
namespace Go.Proofs.Ytpnbeonpicekhaa.Print
open Go.RowKit Go.Proofs.YtpnbeonpicekhaaW.PrintWords Go.Proofs.YtpnbeonpicekhaaW.PrintLast Go.Proofs.YtpnbeonpicekhaaW.PrintMore
attribute [local go_sem] max2_int min2_int max_two min_two max_three min_three max_four min_four   -- for this text's walks alone
set_option linter.unusedVariables false
set_option linter.unusedSimpArgs false

--OWNPART
/-! ### laws_markIntSS: function 34 -/
--IMPORT M5
--IMPORT M16
open Go.Proofs.Ytpnbeonpicekhaa.M
theorem laws_markIntSS.mev (l : List Int) (a : Int) (h : l.length ≤ 1000) (ha : 0 ≤ a) (hb : a ≤ 1000000000) : ∃ k, laws_markIntS.f k l a = some (a + (l.length : Int), upTo a l.length) := by
  have key : ∀ d i, i + d = l.length → Ev (fun k => laws_markIntS.l0 k (upTo a i ++ l.drop i) (a + (i : Int)) (i : Int)) (a + (l.length : Int), upTo a l.length) := by
    refine Ev.count (fun k i => laws_markIntS.l0 k (upTo a i ++ l.drop i) (a + (i : Int)) (i : Int)) l.length _ ?_ ?_
    · intro i hi hn
      refine Ev.step (fun k => ?_) hn
      simp only [laws_markIntS.l0]
      rw [if_pos (by rw [upTo_len (by omega)]; omega), if_pos (by omega), Int.toNat_natCast, upTo_set hi, w64 (by omega) (by omega), w64 (by omega) (by omega)]
      congr 1; omega
    · refine Ev.end (fun k => ?_)
      simp only [laws_markIntS.l0]
      rw [upTo_all, if_neg (by rw [upTo_length]; omega)]
  have h0 := key l.length 0 (by omega)
  rw [upTo_zero] at h0
  obtain ⟨K, hK⟩ := h0
  refine ⟨K, ?_⟩
  have := hK K (Nat.le_refl _)
  unfold laws_markIntS.f
  simpa using this
/-- the next number and the rows, behind i rows -/
def laws_markIntSS.val (l : List (List Int)) (a : Int) : Nat → Int × List (List Int)
  | 0 => (a, l)
  | i + 1 => ((laws_markIntSS.val l a i).1 + ((l.getD i []).length : Int), (laws_markIntSS.val l a i).2.set i (upTo (laws_markIntSS.val l a i).1 (l.getD i []).length))
theorem laws_markIntSS.val_len (l : List (List Int)) (a : Int) : ∀ i, (laws_markIntSS.val l a i).2.length = l.length
  | 0 => rfl
  | i + 1 => by rw [laws_markIntSS.val, List.length_set]; exact laws_markIntSS.val_len l a i
theorem laws_markIntSS.val_get (l : List (List Int)) (a : Int) (j : Nat) : ∀ i, i ≤ j → (laws_markIntSS.val l a i).2.getD j [] = l.getD j []
  | 0, _ => rfl
  | i + 1, h => by
    rw [laws_markIntSS.val, List.getD_eq_getElem?_getD, List.getElem?_set_ne (by omega), ← List.getD_eq_getElem?_getD]
    exact laws_markIntSS.val_get l a j i (by omega)
theorem laws_markIntSS.val_le (l : List (List Int)) (a : Int) (hr : ∀ r, r ∈ l → r.length ≤ 1000) : ∀ i, i ≤ l.length → a ≤ (laws_markIntSS.val l a i).1 ∧ (laws_markIntSS.val l a i).1 ≤ a + 1000 * (i : Int)
  | 0, _ => by simp [laws_markIntSS.val]
  | i + 1, h => by
    obtain ⟨h1, h2⟩ := laws_markIntSS.val_le l a hr i (by omega)
    have h3 : (l.getD i []).length ≤ 1000 := by
      rw [List.getD_eq_getElem?_getD, List.getElem?_eq_getElem (by omega)]
      exact hr _ (List.getElem_mem _)
    rw [laws_markIntSS.val]
    constructor
    · show a ≤ _ + _; omega
    · show _ + _ ≤ _; push_cast; omega
def laws_markIntSS.f (l0 : List (List Int)) (a1 : Int) : Option (Int × List (List Int)) := if l0.length ≤ 1000 ∧ (∀ r, r ∈ l0 → r.length ≤ 1000) ∧ 0 ≤ a1 ∧ a1 ≤ 1000000 then some (laws_markIntSS.val l0 a1 l0.length) else none
/-- the numbers' end -/
def laws_markIntSS.g (l0 : List (List Int)) (a1 : Int) : Option Int := (laws_markIntSS.f l0 a1).map (·.1)
/-- the rows that are left -/
def laws_markIntSS.rows (l0 : List (List Int)) (a1 : Int) : List (List Int) := (laws_markIntSS.val l0 a1 l0.length).2
theorem laws_markIntSS.rows_len (l0 : List (List Int)) (a1 : Int) : (laws_markIntSS.rows l0 a1).length = l0.length := laws_markIntSS.val_len l0 a1 _
theorem laws_markIntSS.g_f {l0 : List (List Int)} {a1 r : Int} (h : laws_markIntSS.g l0 a1 = some r) : laws_markIntSS.f l0 a1 = some (r, laws_markIntSS.rows l0 a1) := by
  unfold laws_markIntSS.g laws_markIntSS.f at h
  unfold laws_markIntSS.f laws_markIntSS.rows
  split at h
  · rename_i hc
    rw [if_pos hc]
    simp only [Option.map_some, Option.some.injEq] at h
    subst h
    rfl
  · cases h
/-- elder rows and new ones -/
theorem laws_markIntSS.two {W w1 : World} {u v : Value} {xs ys : List (List Int)} {b : Nat} {ok : Nat → Prop} (h : Kd.S (Kd.slice 3 (Kd.int .i64)) 32 W b ok u xs) (ho : Kd.S (Kd.slice 3 (Kd.int .i64)) 32 w1 W.heap.size (fun _ => True) v ys) (hb : Below W.heap.size W w1) (hle : b ≤ W.heap.size) :
    ∃ N, Kd.S (Kd.slice 3 (Kd.int .i64)) 32 w1 b (fun k => True ∧ k < N) u xs ∧ Kd.S (Kd.slice 3 (Kd.int .i64)) 32 w1 b (fun k => True ∧ N ≤ k) v ys := by
  refine ⟨W.heap.size, ?_, ?_⟩
  · obtain ⟨f, h⟩ := h
    have h2 : Kd.S (Kd.slice 3 (Kd.int .i64)) 32 W b (fun k => True ∧ k < W.heap.size) u xs := ⟨f, Kd.R_mono (Kd.R_bound h) (fun k hk => ⟨trivial, hk.2.2.1⟩)⟩
    exact Kd.S_below h2 hb
  · obtain ⟨f, ho⟩ := ho
    have h2 : Kd.S (Kd.slice 3 (Kd.int .i64)) 32 w1 W.heap.size (fun k => True ∧ W.heap.size ≤ k) v ys := ⟨f, Kd.R_mono (Kd.R_bound ho) (fun k hk => ⟨trivial, hk.2.1⟩)⟩
    exact Kd.S_lower h2 hle
/-- a row is numbered: the rows with that one -/
theorem laws_markIntSS.row {w0 w W : World} {P0 : Nat → Prop} {g n cap : Nat} {xs : List (List Int)} (h : Kd.S (Kd.slice 3 (Kd.int .i64)) 32 W w0.heap.size (fun k => P0 k ∨ w.heap.size ≤ k) (.slice (some ⟨g, 0, none⟩) n cap) xs) (hB : Below w0.heap.size w0 W) (hK : Kept w W (fun k => P0 k)) (i : Nat) (hi : i < n) (a : Int) (hl : (xs.getD i []).length ≤ 1000) (ha : 0 ≤ a) (hb : a ≤ 1000000000) :
    ∃ A c, W.cell? ⟨g, i, none⟩ = some (.slice A (xs.getD i []).length c) ∧ Calls Try.prog 21 #[.slice A (xs.getD i []).length c, .int .i64 a] W fun e W' => e = .returned (.int .i64 (a + ((xs.getD i []).length : Int))) ∧ Kd.S (Kd.slice 3 (Kd.int .i64)) 32 W' w0.heap.size (fun k => P0 k ∨ w.heap.size ≤ k) (.slice (some ⟨g, 0, none⟩) n cap) (xs.set i (upTo a (xs.getD i []).length)) ∧ Below w0.heap.size w0 W' ∧ Kept w W' (fun k => P0 k) := by
  obtain ⟨oki, c, hcl, hM, hcc, hfr, hoki, hH⟩ := Kd.S_elem h [] (i : Int) (by omega) (by omega)
  rw [Int.toNat_natCast] at hM hcc hfr
  obtain ⟨u, rfl, hR⟩ := hM
  have h4 := hcc 0 _ rfl
  simp only [Kd.slice, Nat.mul_one, Nat.add_zero] at h4
  obtain ⟨A, c2, rfl⟩ := Kd.R_slice hR
  obtain ⟨K, hk⟩ := laws_markIntSS.mev (xs.getD i []) a hl ha hb
  refine ⟨A, c2, h4, (laws_markIntS.calls K oki _ _ a _ _ w0 W hB hR hk).mono ?_⟩
  rintro e W' ⟨rfl, h1, h2, h3⟩
  refine ⟨rfl, ?_, h2, hK.then_ h3 (fun k hk => (hoki k hk).1)⟩
  have h5 := Kd.H_kept hH h3 (fun k _ hn hk => hn hk)
  have h6 := Kd.R_mono (Kd.R_tight rfl h1) (ok' := oki) (fun k hk => hR.1 k hk.symm)
  have h7 := Kd.H_back h5 (x' := upTo a (xs.getD i []).length) (okp := oki) ⟨_, rfl, h6⟩ (fun _ hk => hk)
  rw [Int.toNat_natCast] at h7
  exact h7
set_option maxHeartbeats 4000000 in
set_option maxRecDepth 100000 in
theorem laws_markIntSS.calls (P0_ : Nat → Prop) (u9000_ : Value) (l0 : List (List Int)) (a1 : Int) (r1 : Int) (r2 : List (List Int)) (w0 w : World) (hB : Below w0.heap.size w0 w) (ho0 : Kd.S (Kd.slice 3 (Kd.int .i64)) 32 w w0.heap.size P0_ u9000_ l0) (h : laws_markIntSS.f l0 a1 = some (r1, r2)) :
    Calls Try.prog 34 #[u9000_, .int .i64 a1] w fun e w' => e = .returned (.int .i64 r1) ∧ Kd.S (Kd.slice 3 (Kd.int .i64)) 32 w' w0.heap.size (fun k_ => (P0_ k_ ∨ w.heap.size ≤ k_)) u9000_ r2 ∧ Below w0.heap.size w0 w' ∧ Kept w w' (fun k_ => P0_ k_) := by
  unfold laws_markIntSS.f at h
  by_cases hc : l0.length ≤ 1000 ∧ (∀ r, r ∈ l0 → r.length ≤ 1000) ∧ 0 ≤ a1 ∧ a1 ≤ 1000000
  · rw [if_pos hc] at h
    obtain ⟨h1, h2, h3, h4⟩ := hc
    have h := Option.some.inj h
    have HV := Aside0.mk h
    have HR := Aside0.mk h2
    have HS0 := Aside0.mk (Kd.S_mono ho0 (ok' := fun k => P0_ k ∨ w.heap.size ≤ k) (fun k hk => .inl hk))
    have HB0 := Aside0.mk hB
    have HV0 : Aside0 (laws_markIntSS.val l0 a1 0 = (a1, l0)) := ⟨rfl⟩
    obtain ⟨A0, c0, rfl⟩ := Kd.S_slice ho0
    have hnil : 0 < l0.length → ∃ g, A0 = some ⟨g, 0, none⟩ := fun hp => by
      obtain ⟨g, cap, e, _⟩ := Kd.S_form ho0 hp
      injection e with e
      exact ⟨g, e⟩
    have HN := Aside0.mk hnil
    clear h h2 ho0 hB hnil
    go_enter Try.func34, Try.ntmps34
    go_wp2
    go_loopg [1, 5] l0.length (fun gg v1 v5 wr => ∃ i : Nat, i ≤ l0.length ∧ l0.length - i ≤ gg ∧ v1 = .int .i64 (laws_markIntSS.val l0 a1 i).1 ∧ v5 = .int .i64 (i : Int) ∧ Aside0 (Kd.S (Kd.slice 3 (Kd.int .i64)) 32 wr w0.heap.size (fun k_ => (P0_ k_ ∨ w.heap.size ≤ k_)) (.slice A0 l0.length c0) (laws_markIntSS.val l0 a1 i).2) ∧ Aside0 (Below w0.heap.size w0 wr) ∧ Aside0 (Kept w wr (fun k_ => P0_ k_)))
    case atStart => exact ⟨0, Nat.zero_le _, by omega, rfl, rfl, HS0, HB0, ⟨Kept.refl _ _⟩⟩
    case round =>
      clear HS0 HB0
      obtain ⟨i, hi, hg, rfl, rfl, HS, HB, HK⟩ := hrel
      by_cases hlt : i < l0.length
      · have hltz : (i : Int) < (l0.length : Int) := by omega
        obtain ⟨g, rfl⟩ := HN.out (by omega)
        obtain ⟨b1, b2⟩ := laws_markIntSS.val_le l0 a1 HR.out i hi
        have hgi := laws_markIntSS.val_get l0 a1 i i (Nat.le_refl _)
        have hli : (l0.getD i []).length ≤ 1000 := by
          rw [List.getD_eq_getElem?_getD, List.getElem?_eq_getElem hlt]
          exact HR.out _ (List.getElem_mem _)
        obtain ⟨A, c, k1, k2⟩ := laws_markIntSS.row HS.out HB.out HK.out i hlt (laws_markIntSS.val l0 a1 i).1 (by rw [hgi]; exact hli) (by omega) (by omega)
        have hnx : laws_markIntSS.val l0 a1 (i + 1) = ((laws_markIntSS.val l0 a1 i).1 + (((laws_markIntSS.val l0 a1 i).2.getD i []).length : Int), (laws_markIntSS.val l0 a1 i).2.set i (upTo (laws_markIntSS.val l0 a1 i).1 ((laws_markIntSS.val l0 a1 i).2.getD i []).length)) := by rw [hgi]; rfl
        have HNX := Aside0.mk hnx
        have K2 := Aside0.mk k2
        clear hnx k2 hgi hli b1 b2 HS HB HK
        generalize (((laws_markIntSS.val l0 a1 i).2.getD i []).length) = m at *
        go_wp2_with (first | (go_at_call 21; refine K2.out.mono ?_; rintro e w' ⟨rfl, q1, q2, q3⟩; have Q1 := Aside0.mk q1; have Q2 := Aside0.mk q2; have Q3 := Aside0.mk q3; clear q1 q2 q3))
        go_roundg (l0.length - (i + 1))
        case measure => omega
        case rel => exact ⟨i + 1, by omega, by omega, by rw [HNX.out], by push_cast; rfl, ⟨by rw [HNX.out]; exact Q1.out⟩, Q2, Q3⟩
      · have hgo : decide ((i : Int) < (l0.length : Int)) = false := decide_eq_false (by omega)
        have hgo2 : decide (i < l0.length) = false := decide_eq_false (by omega)
        have hil : i = l0.length := by omega
        have hv : laws_markIntSS.val l0 a1 i = (r1, r2) := by rw [hil]; exact HV.out
        rw [hv] at HS ⊢
        go_wp2
        go_ret
        exact ⟨rfl, HS.out, HB.out, HK.out⟩
  · rw [if_neg hc] at h; cases h


end Go.Proofs.Ytpnbeonpicekhaa.Print
