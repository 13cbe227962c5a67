/- Functions of the given program as plain Lean functions, with proofs that their calls compute them, or lemmas on these. Laid by a program of this repo for the seat Ytlcgappojmdgfaa; Lean checks it. -/
import Derived.Test.YtlcgappojmdgfaaKExactRunProtocol0
import Derived.Test.YtlcgappojmdgfaaKExactRunProtocol4
import Derived.Test.YtlcgappojmdgfaaKExactRunProtocol5
import Derived.Test.YtlcgappojmdgfaaKExactRunProtocol6
import Derived.Test.YtlcgappojmdgfaaM9
namespace Go.Proofs.Ytlcgappojmdgfaa.Print
open Go.RowKit Go.Proofs.YtlcgappojmdgfaaW.PrintWords Go.Proofs.YtlcgappojmdgfaaW.PrintLast Go.Proofs.YtlcgappojmdgfaaW.PrintMore
attribute [local go_sem] max2_int min2_int max_two min_two max_three min_three max_four min_four   -- for this text's walks alone
set_option linter.unusedVariables false
set_option linter.unusedSimpArgs false

--OWNPART
/-! ### impl_RunProtocol: function 15 -/
--IMPORT M9
open Go.Proofs.Ytlcgappojmdgfaa.M
def impl_RunProtocol.f (a0 : ByteArray) (a1 : Int) (a2 : Int) : Option (Int × Int × Bool) := some (match protOf a0 with | some T => if (inR 2 a1 && inR 2 a2) = true then ((T.run a1.toNat a2.toNat).1, (((T.run a1.toNat a2.toNat).2 : Nat) : Int), true) else (0, 0, false) | none => (0, 0, false))
theorem impl_RunProtocol.inp (x : Int) : impl_isInput.f 2 x = some (inR 2 x) := by
  unfold impl_isInput.f inR
  by_cases h : x ≥ 0
  · rw [if_pos h, if_pos (by decide)]
    have e : shl .i64 1 2 = 4 := by decide
    rw [e]; congr 1
    apply decide_eq_decide.mpr
    have : ((2 ^ 2 : Nat) : Int) = 4 := by decide
    omega
  · rw [if_neg h]
    congr 1; symm
    apply decide_eq_false; omega
set_option maxHeartbeats 2000000 in
theorem impl_RunProtocol.good (S : ByteArray) (T : Tn) (hT : FineT T) (hn : T.nodes ≤ 100) (a b : Nat) (ha : a < 4) (hb : b < 4) (w : World)
    (HC : Calls Try.prog 36 #[.string S] w fun e w' => ∃ p, e = .returned (.tuple #[.pointer (some ⟨p, 0, none⟩), .bool true]) ∧ impl_readTurn.Lies w.heap.size w' T (.pointer (some ⟨p, 0, none⟩)) ∧ Below w.heap.size w w') :
    Calls Try.prog 15 #[.string S, .int .i64 (a : Int), .int .i64 (b : Int)] w fun e w' => e = .returned (.tuple #[.int .i64 (T.run a b).1, .int .i64 (((T.run a b).2 : Nat) : Int), .bool true]) ∧ Below w.heap.size w w' := by
  have C1 := Aside0.mk HC
  have A1 : Aside0 (impl_isInput.f 2 (a : Int) = some true) := ⟨by rw [impl_RunProtocol.inp]; congr 1; exact inR_mk (n := 2) (by omega)⟩
  have A2 : Aside0 (impl_isInput.f 2 (b : Int) = some true) := ⟨by rw [impl_RunProtocol.inp]; congr 1; exact inR_mk (n := 2) (by omega)⟩
  obtain ⟨R, hR⟩ : ∃ R, R = (T.run a b).1 := ⟨_, rfl⟩
  obtain ⟨M, hM⟩ : ∃ M, M = (T.run a b).2 := ⟨_, rfl⟩
  have hMn : M ≤ 100 := by rw [hM]; have := run_le a b hT; omega
  rw [← hR, ← hM]
  have HT := Aside0.mk (show FineT T ∧ T.nodes ≤ T.nodes ∧ (T.run a b).1 = R ∧ 0 + (T.run a b).2 = M from ⟨hT, Nat.le_refl _, hR.symm, by omega⟩)
  clear HC hT hn hR hM
  go_enter Try.func15, Try.ntmps15
  go_wp2_with (first | (go_at_call 36; (with_reducible refine C1.out.mono ?_); rintro e w1 ⟨p1, rfl, hl1, hb1⟩; have L1 := Aside0.mk hl1; have B1 := Aside0.mk hb1; clear hl1 hb1) | (go_at_call 41; (with_reducible first | refine (impl_isInput.calls 2 (a : Int) true _ A1.out).mono ?_ | refine (impl_isInput.calls 2 (b : Int) true _ A2.out).mono ?_); rintro e w' ⟨rfl, ⟨nd, rfl⟩⟩))
  have hwx : ∀ nd, Aside0 (impl_readTurn.Lies w.heap.size (w1.drewN nd) T (.pointer (some ⟨p1, 0, none⟩)) ∧ Below w.heap.size w (w1.drewN nd)) := fun nd => ⟨L1.out.below (pw_below_drewN (Below.refl _ _) nd), pw_below_drewN B1.out nd⟩
  have hw0 : Aside0 (impl_readTurn.Lies w.heap.size w1 T (.pointer (some ⟨p1, 0, none⟩)) ∧ Below w.heap.size w w1) := ⟨L1.out, B1.out⟩
  clear L1 B1 C1 A1 A2
  go_loopg [9, 11] T.nodes (fun gg v9 v11 wr => ∃ (T' : Tn) (p : Nat) (m : Nat), v9 = .pointer (some ⟨p, 0, none⟩) ∧ v11 = .int .i64 (m : Int) ∧ Aside0 (FineT T' ∧ T'.nodes ≤ gg ∧ (T'.run a b).1 = R ∧ m + (T'.run a b).2 = M) ∧ Aside0 (impl_readTurn.Lies w.heap.size wr T' (.pointer (some ⟨p, 0, none⟩)) ∧ Below w.heap.size w wr))
  case atStart => exact ⟨T, p1, 0, rfl, rfl, HT, by first | exact hw0 | exact hwx _⟩
  case round =>
    clear hwx hw0 HT
    obtain ⟨T', p, m, rfl, rfl, HF, HL⟩ := hrel
    obtain ⟨hF, hg, hr, hm⟩ := HF.out
    obtain ⟨hl, hB⟩ := HL.out
    clear HF HL
    cases hF with
    | leaf c hc =>
      obtain ⟨b', vl, vr, h0, h1, h2, h3, h4, h5, h6, h7⟩ := hl
      obtain rfl : p = b' := by injection h1 with h1; injection h1 with h1; injection h1
      obtain rfl : vl = .pointer none := h6
      have HBB := Aside0.mk hB
      have hr' : c - 48 = R := hr
      obtain rfl : m = M := by have : (Tn.run a b (.node c 0 .nil .nil)).2 = 0 := rfl; omega
      clear h0 h1 h3 h5 h7 hB hg hr hm
      rcases hc with rfl | rfl
      all_goals
        subst hr'
        go_wp2
        exact bodyPost_ret (v := .tuple #[.int .i64 _, .int .i64 (m : Int), .bool true]) (by simp [results, Try.results15]) rfl ⟨rfl, HBB.out⟩
    | two c d l r hc hd0 hd1 hFl hFr =>
      obtain ⟨b', vl, vr, h0, h1, h2, h3, h4, h5, h6, h7⟩ := hl
      obtain rfl : p = b' := by injection h1 with h1; injection h1 with h1; injection h1
      obtain ⟨b1, rfl⟩ := h6.fine hFl
      obtain ⟨b2, rfl⟩ := h7.fine hFr
      obtain ⟨dn, rfl⟩ := nat_of hd0
      have hng : l.nodes + r.nodes + 1 ≤ gk := hg
      clear hg
      rcases hc with rfl | rfl
      · have hq1 : Tn.run a b (.node 65 (dn : Int) l r) = if dn.testBit a = true then ((r.run a b).1, (r.run a b).2 + 1) else ((l.run a b).1, (l.run a b).2 + 1) := by rw [run_two a b 65 _ hFl, Int.toNat_natCast]; rfl
        rw [hq1] at hr hm
        have hmin : min a 64 = a := by omega
        have hbit := bit_nat (a := dn) (n := a) (by omega) (by omega)
        have hsh := shr_nat (a := dn) (n := a) (by omega)
        have hsh2 : shr .i64 (dn : Int) (a : Int) = (dn : Int) / 2 ^ a := by rw [hsh]; push_cast; rfl
        rw [hsh2] at hbit
        obtain ⟨J, hJ⟩ : ∃ J : Int, (dn : Int) / 2 ^ a = J := ⟨_, rfl⟩
        rw [hJ] at hbit
        clear hsh hsh2
        cases hq : dn.testBit a with
        | true =>
          rw [hq, if_pos rfl] at hm hr
          have hb1 : (Go.bits .and .i64 J 1 == 1) = true := by rw [hbit, hq]; rfl
          have hm_ : m + ((r.run a b).2 + 1) = M := hm
          have e11 := Aside0.mk (show Value.int .i64 (wrap64 ((m : Int) + 1)) = .int .i64 ((m + 1 : Nat) : Int) from by rw [up1 (by omega)])
          have HN := Aside0.mk (show FineT r ∧ r.nodes ≤ gk - 1 ∧ (r.run a b).1 = R ∧ (m + 1) + (r.run a b).2 = M from ⟨hFr, by omega, hr, by omega⟩)
          have HL := Aside0.mk (show impl_readTurn.Lies w.heap.size wr r (.pointer (some ⟨b2, 0, none⟩)) ∧ Below w.heap.size w wr from ⟨h7, hB⟩)
          have hk1 : gk - 1 < gk := by omega
          clear hFl hFr h0 h1 h6 h7 hB hr hm hm_ hq1 hbit hq hd0 hd1 hng
          go_wp2
          go_roundg (gk - 1)
          case measure => exact hk1
          case rel => exact ⟨r, b2, m + 1, rfl, e11.out, HN, HL⟩
        | false =>
          rw [hq, if_neg (by decide)] at hm hr
          have hb1 : (Go.bits .and .i64 J 1 == 1) = false := by rw [hbit, hq]; rfl
          have hm_ : m + ((l.run a b).2 + 1) = M := hm
          have e11 := Aside0.mk (show Value.int .i64 (wrap64 ((m : Int) + 1)) = .int .i64 ((m + 1 : Nat) : Int) from by rw [up1 (by omega)])
          have HN := Aside0.mk (show FineT l ∧ l.nodes ≤ gk - 1 ∧ (l.run a b).1 = R ∧ (m + 1) + (l.run a b).2 = M from ⟨hFl, by omega, hr, by omega⟩)
          have HL := Aside0.mk (show impl_readTurn.Lies w.heap.size wr l (.pointer (some ⟨b1, 0, none⟩)) ∧ Below w.heap.size w wr from ⟨h6, hB⟩)
          have hk1 : gk - 1 < gk := by omega
          clear hFl hFr h0 h1 h6 h7 hB hr hm hm_ hq1 hbit hq hd0 hd1 hng
          go_wp2
          go_roundg (gk - 1)
          case measure => exact hk1
          case rel => exact ⟨l, b1, m + 1, rfl, e11.out, HN, HL⟩
      · have hq1 : Tn.run a b (.node 66 (dn : Int) l r) = if dn.testBit b = true then ((r.run a b).1, (r.run a b).2 + 1) else ((l.run a b).1, (l.run a b).2 + 1) := by rw [run_two a b 66 _ hFl, Int.toNat_natCast]; rfl
        rw [hq1] at hr hm
        have hmin : min b 64 = b := by omega
        have hbit := bit_nat (a := dn) (n := b) (by omega) (by omega)
        have hsh := shr_nat (a := dn) (n := b) (by omega)
        have hsh2 : shr .i64 (dn : Int) (b : Int) = (dn : Int) / 2 ^ b := by rw [hsh]; push_cast; rfl
        rw [hsh2] at hbit
        obtain ⟨J, hJ⟩ : ∃ J : Int, (dn : Int) / 2 ^ b = J := ⟨_, rfl⟩
        rw [hJ] at hbit
        clear hsh hsh2
        cases hq : dn.testBit b with
        | true =>
          rw [hq, if_pos rfl] at hm hr
          have hb1 : (Go.bits .and .i64 J 1 == 1) = true := by rw [hbit, hq]; rfl
          have hm_ : m + ((r.run a b).2 + 1) = M := hm
          have e11 := Aside0.mk (show Value.int .i64 (wrap64 ((m : Int) + 1)) = .int .i64 ((m + 1 : Nat) : Int) from by rw [up1 (by omega)])
          have HN := Aside0.mk (show FineT r ∧ r.nodes ≤ gk - 1 ∧ (r.run a b).1 = R ∧ (m + 1) + (r.run a b).2 = M from ⟨hFr, by omega, hr, by omega⟩)
          have HL := Aside0.mk (show impl_readTurn.Lies w.heap.size wr r (.pointer (some ⟨b2, 0, none⟩)) ∧ Below w.heap.size w wr from ⟨h7, hB⟩)
          have hk1 : gk - 1 < gk := by omega
          clear hFl hFr h0 h1 h6 h7 hB hr hm hm_ hq1 hbit hq hd0 hd1 hng
          go_wp2
          go_roundg (gk - 1)
          case measure => exact hk1
          case rel => exact ⟨r, b2, m + 1, rfl, e11.out, HN, HL⟩
        | false =>
          rw [hq, if_neg (by decide)] at hm hr
          have hb1 : (Go.bits .and .i64 J 1 == 1) = false := by rw [hbit, hq]; rfl
          have hm_ : m + ((l.run a b).2 + 1) = M := hm
          have e11 := Aside0.mk (show Value.int .i64 (wrap64 ((m : Int) + 1)) = .int .i64 ((m + 1 : Nat) : Int) from by rw [up1 (by omega)])
          have HN := Aside0.mk (show FineT l ∧ l.nodes ≤ gk - 1 ∧ (l.run a b).1 = R ∧ (m + 1) + (l.run a b).2 = M from ⟨hFl, by omega, hr, by omega⟩)
          have HL := Aside0.mk (show impl_readTurn.Lies w.heap.size wr l (.pointer (some ⟨b1, 0, none⟩)) ∧ Below w.heap.size w wr from ⟨h6, hB⟩)
          have hk1 : gk - 1 < gk := by omega
          clear hFl hFr h0 h1 h6 h7 hB hr hm hm_ hq1 hbit hq hd0 hd1 hng
          go_wp2
          go_roundg (gk - 1)
          case measure => exact hk1
          case rel => exact ⟨l, b1, m + 1, rfl, e11.out, HN, HL⟩
theorem impl_RunProtocol.form {S : ByteArray} {T : Tn} (h : protOf S = some T) : FineT T ∧ T.nodes ≤ 100 := by
  obtain ⟨h1, h2, h3⟩ := protOf_some h
  obtain ⟨a1, a2, a3, a4⟩ := rt_some h3
  exact ⟨a1, by omega⟩
set_option maxHeartbeats 1000000 in
theorem impl_RunProtocol.calls (a0 : ByteArray) (a1 : Int) (a2 : Int) (r1 : Int) (r2 : Int) (r3 : Bool) (w : World) (h : impl_RunProtocol.f a0 a1 a2 = some (r1, r2, r3)) : Calls Try.prog 15 #[.string a0, .int .i64 a1, .int .i64 a2] w fun e w' => e = .returned (.tuple #[.int .i64 r1, .int .i64 r2, .bool r3]) ∧ Below w.heap.size w w' := by
  have h := Option.some.inj h
  have HC := impl_wholeTurn.call a0 w
  cases hq : protOf a0 with
  | none =>
    rw [hq] at h
    simp only [Prod.mk.injEq] at h
    obtain ⟨rfl, rfl, rfl⟩ := h
    have C1 : Aside0 (Calls Try.prog 36 #[.string a0] w fun e w' => ∃ v, e = .returned (.tuple #[v, .bool false]) ∧ Below w.heap.size w w') := ⟨HC.mono (by rw [hq]; rintro e W' ⟨⟨v, he⟩, hb⟩; exact ⟨v, he, hb⟩)⟩
    clear HC hq
    go_enter Try.func15, Try.ntmps15
    go_wp2_with (first | (go_at_call 36; (with_reducible refine C1.out.mono ?_); rintro e w1 ⟨v1, rfl, hb1⟩))
    exact bodyPost_ret (v := .tuple #[.int .i64 0, .int .i64 0, .bool false]) (by simp [results, Try.results15]) rfl ⟨rfl, hb1⟩
  | some T =>
    rw [hq] at h
    obtain ⟨hT, hN⟩ := impl_RunProtocol.form hq
    have HC2 : Calls Try.prog 36 #[.string a0] w fun e w' => ∃ p, e = .returned (.tuple #[.pointer (some ⟨p, 0, none⟩), .bool true]) ∧ impl_readTurn.Lies w.heap.size w' T (.pointer (some ⟨p, 0, none⟩)) ∧ Below w.heap.size w w' := HC.mono (by rw [hq]; rintro e W' ⟨⟨b, he, hl⟩, hb⟩; exact ⟨b, he, hl, hb⟩)
    have h : (if (inR 2 a1 && inR 2 a2) = true then ((T.run a1.toNat a2.toNat).1, (((T.run a1.toNat a2.toNat).2 : Nat) : Int), true) else (0, 0, false)) = (r1, r2, r3) := h
    cases h1 : inR 2 a1 with
    | true =>
      cases h2 : inR 2 a2 with
      | true =>
        obtain ⟨a, rfl, ha⟩ := inR_nat h1
        obtain ⟨b, rfl, hb⟩ := inR_nat h2
        rw [h1, h2, if_pos (show (true && true) = true from rfl), Int.toNat_natCast, Int.toNat_natCast] at h
        simp only [Prod.mk.injEq] at h
        obtain ⟨rfl, rfl, rfl⟩ := h
        exact impl_RunProtocol.good a0 T hT hN a b ha hb w HC2
      | false =>
        rw [h1, h2, if_neg (by decide)] at h
        simp only [Prod.mk.injEq] at h
        obtain ⟨rfl, rfl, rfl⟩ := h
        have C1 := Aside0.mk HC2
        have A1 : Aside0 (impl_isInput.f 2 a1 = some true) := ⟨by rw [impl_RunProtocol.inp, h1]⟩
        have A2 : Aside0 (impl_isInput.f 2 a2 = some false) := ⟨by rw [impl_RunProtocol.inp, h2]⟩
        clear HC HC2 hq hT hN h1 h2
        go_enter Try.func15, Try.ntmps15
        go_wp2_with (first | (go_at_call 36; (with_reducible refine C1.out.mono ?_); rintro e w1 ⟨p1, rfl, hl1, hb1⟩; have L1 := Aside0.mk hl1; have B1 := Aside0.mk hb1; clear hl1 hb1) | (go_at_call 41; (with_reducible first | refine (impl_isInput.calls 2 a1 true _ A1.out).mono ?_ | refine (impl_isInput.calls 2 a2 false _ A2.out).mono ?_); rintro e w' ⟨rfl, ⟨nd, rfl⟩⟩))
        exact bodyPost_ret (v := .tuple #[.int .i64 0, .int .i64 0, .bool false]) (by simp [results, Try.results15]) rfl ⟨rfl, by repeat (first | exact B1.out | apply pw_below_drewN)⟩
    | false =>
      rw [h1, Bool.false_and, if_neg (by decide)] at h
      simp only [Prod.mk.injEq] at h
      obtain ⟨rfl, rfl, rfl⟩ := h
      have C1 := Aside0.mk HC2
      have A1 : Aside0 (impl_isInput.f 2 a1 = some false) := ⟨by rw [impl_RunProtocol.inp, h1]⟩
      clear HC HC2 hq hT hN h1
      go_enter Try.func15, Try.ntmps15
      go_wp2_with (first | (go_at_call 36; (with_reducible refine C1.out.mono ?_); rintro e w1 ⟨p1, rfl, hl1, hb1⟩; have L1 := Aside0.mk hl1; have B1 := Aside0.mk hb1; clear hl1 hb1) | (go_at_call 41; (with_reducible refine (impl_isInput.calls 2 a1 false _ A1.out).mono ?_); rintro e w' ⟨rfl, ⟨nd, rfl⟩⟩))
      exact bodyPost_ret (v := .tuple #[.int .i64 0, .int .i64 0, .bool false]) (by simp [results, Try.results15]) rfl ⟨rfl, by repeat (first | exact B1.out | apply pw_below_drewN)⟩


end Go.Proofs.Ytlcgappojmdgfaa.Print
