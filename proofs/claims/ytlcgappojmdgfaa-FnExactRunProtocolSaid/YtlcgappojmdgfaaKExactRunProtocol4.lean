/- Functions of the given program as plain Lean functions, with proofs that their calls compute them, or lemmas on these. Laid by a program of this repo for the seat Ytlcgappojmdgfaa; Lean checks it. -/
import Derived.Test.YtlcgappojmdgfaaKExactRunProtocol0
import Derived.Test.YtlcgappojmdgfaaKExactRunProtocol3
import Derived.Test.YtlcgappojmdgfaaM9
import Derived.BigQuiet
namespace Go.Proofs.Ytlcgappojmdgfaa.Print
open Go.RowKit Go.Proofs.YtlcgappojmdgfaaW.PrintWords Go.Proofs.YtlcgappojmdgfaaW.PrintLast Go.Proofs.YtlcgappojmdgfaaW.PrintMore
attribute [local go_sem] max2_int min2_int max_two min_two max_three min_three max_four min_four   -- for this text's walks alone
set_option linter.unusedVariables false
set_option linter.unusedSimpArgs false

--OWNPART
/-! ### impl_readTurn: function 61 -/
--IMPORT M9
--IMPORT Derived.BigQuiet
open Go.Proofs.Ytlcgappojmdgfaa.M
/-- a tree of turns lies in memory, its nodes in blocks from base on -/
def impl_readTurn.Lies (base : Nat) (w : World) : Tn → Value → Prop
  | .nil, v => v = .pointer none
  | .node c d l r, v => ∃ b vl vr, base ≤ b ∧ v = .pointer (some ⟨b, 0, none⟩) ∧ w.cell? ⟨b, 0, none⟩ = some (.int .u8 c) ∧ w.cell? ⟨b, 1, none⟩ = some (.int .i64 d) ∧ w.cell? ⟨b, 2, none⟩ = some vl ∧ w.cell? ⟨b, 3, none⟩ = some vr ∧ impl_readTurn.Lies base w l vl ∧ impl_readTurn.Lies base w r vr
theorem impl_readTurn.Lies.below {base : Nat} {w w' : World} (hb : Below w.heap.size w w') : ∀ {T : Tn} {v : Value}, impl_readTurn.Lies base w T v → impl_readTurn.Lies base w' T v
  | .nil, v, h => h
  | .node c d l r, v, h => by
    obtain ⟨b, vl, vr, h0, h1, h2, h3, h4, h5, h6, h7⟩ := h
    have hlt : b < w.heap.size := World.block_lt_of_cell? w ⟨b, 0, none⟩ h2
    exact ⟨b, vl, vr, h0, h1, (hb.cell (p := ⟨b, 0, none⟩) hlt).trans h2, (hb.cell (p := ⟨b, 1, none⟩) hlt).trans h3, (hb.cell (p := ⟨b, 2, none⟩) hlt).trans h4, (hb.cell (p := ⟨b, 3, none⟩) hlt).trans h5, impl_readTurn.Lies.below hb h6, impl_readTurn.Lies.below hb h7⟩
theorem impl_readTurn.Lies.mono {base base' : Nat} {w : World} (hb : base' ≤ base) : ∀ {T : Tn} {v : Value}, impl_readTurn.Lies base w T v → impl_readTurn.Lies base' w T v
  | .nil, v, h => h
  | .node c d l r, v, h => by
    obtain ⟨b, vl, vr, h0, h1, h2, h3, h4, h5, h6, h7⟩ := h
    exact ⟨b, vl, vr, by omega, h1, h2, h3, h4, h5, impl_readTurn.Lies.mono hb h6, impl_readTurn.Lies.mono hb h7⟩
theorem impl_readTurn.Lies.far {base g : Nat} {w : World} (hg : g < base) (j : Nat) (x : Value) : ∀ {T : Tn} {v : Value}, impl_readTurn.Lies base w T v → impl_readTurn.Lies base (w.setCell ⟨g, j, none⟩ x) T v
  | .nil, v, h => h
  | .node c d l r, v, h => by
    obtain ⟨b, vl, vr, h0, h1, h2, h3, h4, h5, h6, h7⟩ := h
    have hne : ∀ k, (w.setCell ⟨g, j, none⟩ x).cell? ⟨b, k, none⟩ = w.cell? ⟨b, k, none⟩ := fun k => by
      have := Below.heap_setCell w ⟨g, j, none⟩ x b (by show b ≠ g; omega)
      simp only [World.cell?, this]
    exact ⟨b, vl, vr, h0, h1, (hne 0).trans h2, (hne 1).trans h3, (hne 2).trans h4, (hne 3).trans h5, impl_readTurn.Lies.far hg j x h6, impl_readTurn.Lies.far hg j x h7⟩
theorem impl_readTurn.Lies.fine {base : Nat} {w : World} {T : Tn} {v : Value} (hT : FineT T) (h : impl_readTurn.Lies base w T v) : ∃ b, v = .pointer (some ⟨b, 0, none⟩) := by
  cases hT with
  | leaf c _ => obtain ⟨b, _, _, _, h1, _⟩ := h; exact ⟨b, h1⟩
  | two c d l r _ _ _ _ _ => obtain ⟨b, _, _, _, h1, _⟩ := h; exact ⟨b, h1⟩
/-- what the call gives back -/
def impl_readTurn.Out (S : ByteArray) (w : World) (p : Option (Tn × Nat)) (e : Ending) (w' : World) : Prop :=
  (match p with
  | none => e = .returned (.tuple #[.pointer none, .string ⟨#[]⟩])
  | some (T, j) => ∃ v, e = .returned (.tuple #[v, .string (S.extract j S.size)]) ∧ impl_readTurn.Lies w.heap.size w' T v) ∧ Below w.heap.size w w'
set_option maxHeartbeats 4000000 in
theorem impl_readTurn.call (S : ByteArray) (hS : S.size ≤ 1000000) : ∀ k i w, S.size ≤ i + k → i ≤ S.size → Calls Try.prog 61 #[.string (S.extract i S.size)] w (impl_readTurn.Out S w (rt S k i)) := by
  intro k
  induction k with
  | zero =>
    intro i w hk hi
    have hz : S.extract i S.size = ⟨#[]⟩ := by
      apply ByteArray.ext; apply Array.eq_empty_of_size_eq_zero
      show (S.extract i S.size).size = 0
      simp [ByteArray.size_extract]; omega
    rw [hz, rt]
    clear hk hi hS hz
    go_enter Try.func61, Try.ntmps61
    go_wp2_with (fail)
    go_ret2
    exact ⟨rfl, Below.refl _ _⟩
  | succ k ih =>
    intro i w hk hi
    by_cases h0 : S.size ≤ i
    · have hz : S.extract i S.size = ⟨#[]⟩ := by
        apply ByteArray.ext; apply Array.eq_empty_of_size_eq_zero
        show (S.extract i S.size).size = 0
        simp [ByteArray.size_extract]; omega
      rw [hz, rt, if_pos h0]
      clear hk hi hS hz h0
      go_enter Try.func61, Try.ntmps61
      go_wp2_with (fail)
      go_ret2
      exact ⟨rfl, Below.refl _ _⟩
    · have hlt : i < S.size := by omega
      have hb := bt_extract hlt
      have hx := extract_extract (S := S) 1 (show i + 1 ≤ S.size by omega)
      have hsz : (S.extract i S.size).size = S.size - i := by simp [ByteArray.size_extract]
      rw [rt, if_neg h0]
      obtain ⟨s, hs⟩ : ∃ s, s = S.extract i S.size := ⟨_, rfl⟩
      obtain ⟨t, ht⟩ : ∃ t, t = S.extract (i + 1) S.size := ⟨_, rfl⟩
      obtain ⟨c, hc⟩ : ∃ c, c = bt S i := ⟨_, rfl⟩
      rw [← ht] at hx
      have hs' := hs
      rw [← hs] at hb hsz hx ⊢
      rw [← hc] at hb ⊢
      have hp : 0 < s.size := by omega
      rw [← hsz] at hx
      have hne : s.toList.isEmpty = false := by
        rw [List.isEmpty_eq_false_iff]
        intro e
        have h := congrArg List.length e
        rw [toList_len] at h
        simp only [List.length_nil] at h; omega
      have hbt : ((s[0]'hp).toNat : Int) = c := by
        have h := bt_at s 0 (by simpa using hp)
        rw [hb] at h; simpa using h
      have HT := Aside0.mk ht
      have HR : ∀ nd, Aside0 (((w.alloc (.cells #[.int .u8 c, .int .i64 0, .pointer none, .pointer none] 52)).drewN nd).heap[w.heap.size]? = some (.cells #[.int .u8 c, .int .i64 0, .pointer none, .pointer none] 52 (0, 0))) := fun nd => ⟨by simpa using blk_new w (.cells #[.int .u8 c, .int .i64 0, .pointer none, .pointer none] 52)⟩
      have HB : ∀ nd, Aside0 (Below w.heap.size w ((w.alloc (.cells #[.int .u8 c, .int .i64 0, .pointer none, .pointer none] 52)).drewN nd)) := fun nd => ⟨pw_below_drewN ((Below.refl _ _).alloc (Nat.le_refl _) _) nd⟩
      by_cases h1 : c = 48 ∨ c = 49
      · rw [if_pos h1]
        have fin : ∀ nd, impl_readTurn.Out S w (some (.node c 0 .nil .nil, i + 1)) (.returned (.tuple #[.pointer (some ⟨w.heap.size, 0, none⟩), .string t])) ((w.alloc (.cells #[.int .u8 c, .int .i64 0, .pointer none, .pointer none] 52)).drewN nd) := fun nd => by
          rw [HT.out]
          exact ⟨⟨_, rfl, ⟨w.heap.size, .pointer none, .pointer none, Nat.le_refl _, rfl, blk_cell (HR nd).out 0, blk_cell (HR nd).out 1, blk_cell (HR nd).out 2, blk_cell (HR nd).out 3, rfl, rfl⟩⟩, (HB nd).out⟩
        have FIN := Aside0.mk fin
        clear fin ih hk hi h0 hlt hsz hs hs' ht hc hb
        rcases h1 with rfl | rfl
        all_goals
          go_enter Try.func61, Try.ntmps61
          go_wp2_with (fail)
          repeat (go_quiet (fail); try go_wp2)
          go_ret2
          exact FIN.out _
      · rw [if_neg h1]
        have n1 : (c == 48) = false := beq_eq_false_iff_ne.mpr (fun e => h1 (.inl e))
        have n2 : (c == 49) = false := beq_eq_false_iff_ne.mpr (fun e => h1 (.inr e))
        by_cases h2 : c ≠ 65 ∧ c ≠ 66
        · rw [if_pos (.inl h2)]
          have m1 : (c != 65) = true := bne_iff_ne.mpr h2.1
          have m2 : (c != 66) = true := bne_iff_ne.mpr h2.2
          clear ih hk hi h0 hlt hsz hs hs' ht hc hb h1 h2
          go_enter Try.func61, Try.ntmps61
          go_wp2_with (fail)
          go_ret2
          exact ⟨rfl, (HB 0).out⟩
        · have hAB : c = 65 ∨ c = 66 := by omega
          by_cases h3 : S.size < i + 2
          · rw [if_pos (.inr h3)]
            have l1 : decide ((s.size : Int) < 2) = true := decide_eq_true (by omega)
            clear ih hk hi h0 hlt hsz hs hs' ht hc hb h1 h2
            rcases hAB with rfl | rfl
            all_goals
              go_enter Try.func61, Try.ntmps61
              go_wp2_with (fail)
              go_ret2
              exact ⟨rfl, (HB 0).out⟩
          · rw [if_neg (by rintro (h | h); exact h2 h; exact h3 h)]
            have l1 : decide ((s.size : Int) < 2) = false := decide_eq_false (by omega)
            have hp2 : 1 < s.size := by omega
            obtain ⟨c2, hc2⟩ : ∃ c2, c2 = bt S (i + 1 : Nat) := ⟨_, rfl⟩
            have hbt2 : ((s[1]'hp2).toNat : Int) = c2 := by
              have h := bt_at s 1 (by simpa using hp2)
              have e := bt_extract1 (S := S) (i := i) (j := 1) (m := i + 1) rfl (by omega)
              rw [← hs'] at e
              rw [hc2, ← e]
              simpa using h
            have hr2 := bt_range S (i + 1 : Nat)
            rw [← hc2] at hr2 ⊢
            have hx2 := extract_extract (S := S) 2 (show i + 2 ≤ S.size by omega)
            obtain ⟨t', ht'⟩ : ∃ t', t' = S.extract (i + 2) S.size := ⟨_, rfl⟩
            rw [← ht', ← hs', ← hsz] at hx2
            have HX := Aside0.mk (fun W => strings_IndexByte.hex c2 hr2.1 hr2.2 W)
            have IH := Aside0.mk (fun w => ih (i + 2) w (by omega) (by omega))
            have IH2 := Aside0.mk (fun j w (h1 : i < j) (h2 : j ≤ S.size) => ih j w (by clear hsz; omega) h2)
            rw [← ht'] at IH
            obtain ⟨d, hd⟩ : ∃ d, d = hexV c2 := ⟨_, rfl⟩
            rw [← hd] at HX ⊢
            by_cases h4 : d < 0
            · rw [if_pos h4]
              have l2 : decide (d < 0) = true := decide_eq_true h4
              have FE : Aside0 (Below w.heap.size w (w.alloc (.cells #[.int .u8 c, .int .i64 d, .pointer none, .pointer none] 52))) := ⟨(Below.refl _ _).alloc (Nat.le_refl _) _⟩
              clear ih hk hi h0 hlt hsz hs hs' ht hc hb h1 h2 h3 hc2 hr2 IH IH2 hd h4 ht'
              rcases hAB with rfl | rfl
              all_goals
                go_enter Try.func61, Try.ntmps61
                go_wp2_with (first | (go_at_call 83; (with_reducible refine (HX.out _).mono ?_); rintro e w' ⟨rfl, rfl⟩))
                go_ret2
                exact ⟨rfl, FE.out⟩
            · rw [if_neg h4]
              have l2 : decide (d < 0) = false := decide_eq_false h4
              have HR1 : Aside0 ((w.alloc (.cells #[.int .u8 c, .int .i64 d, .pointer none, .pointer none] 52)).heap[w.heap.size]? = some (.cells #[.int .u8 c, .int .i64 d, .pointer none, .pointer none] 52 (0, 0))) := ⟨blk_new w _⟩
              have HB1 : Aside0 (Below w.heap.size w (w.alloc (.cells #[.int .u8 c, .int .i64 d, .pointer none, .pointer none] 52))) := ⟨(Below.refl _ _).alloc (Nat.le_refl _) _⟩
              have HZ1 : Aside0 ((w.alloc (.cells #[.int .u8 c, .int .i64 d, .pointer none, .pointer none] 52)).heap.size = w.heap.size + 1) := ⟨by simp⟩
              have C1n : rt S k (i + 2) = none → Aside0 (∀ W, Calls Try.prog 61 #[.string t'] W fun e W' => e = .returned (.tuple #[.pointer none, .string ⟨#[]⟩]) ∧ Below W.heap.size W W') := fun hq => ⟨fun W => by have h := IH.out W; rw [hq] at h; exact h⟩
              have C1s : ∀ T j, rt S k (i + 2) = some (T, j) → Aside0 (∀ W, Calls Try.prog 61 #[.string t'] W fun e W' => ∃ b, e = .returned (.tuple #[.pointer (some ⟨b, 0, none⟩), .string (S.extract j S.size)]) ∧ impl_readTurn.Lies W.heap.size W' T (.pointer (some ⟨b, 0, none⟩)) ∧ Below W.heap.size W W') := fun T j hq => ⟨fun W => (IH.out W).mono (by
                rw [hq]; rintro e W' ⟨⟨v, he, hl⟩, hb⟩
                obtain ⟨b, rfl⟩ := hl.fine (rt_some hq).1
                exact ⟨b, he, hl, hb⟩)⟩
              have C2n : ∀ j, i < j → j ≤ S.size → rt S k j = none → Aside0 (∀ W, Calls Try.prog 61 #[.string (S.extract j S.size)] W fun e W' => e = .returned (.tuple #[.pointer none, .string ⟨#[]⟩]) ∧ Below W.heap.size W W') := fun j h1 h2 hq => ⟨fun W => by have h := IH2.out j W h1 h2; rw [hq] at h; exact h⟩
              have C2s : ∀ j, i < j → j ≤ S.size → ∀ T m, rt S k j = some (T, m) → Aside0 (∀ W, Calls Try.prog 61 #[.string (S.extract j S.size)] W fun e W' => ∃ b, e = .returned (.tuple #[.pointer (some ⟨b, 0, none⟩), .string (S.extract m S.size)]) ∧ impl_readTurn.Lies W.heap.size W' T (.pointer (some ⟨b, 0, none⟩)) ∧ Below W.heap.size W W') := fun j h1 h2 T m hq => ⟨fun W => (IH2.out j W h1 h2).mono (by
                rw [hq]; rintro e W' ⟨⟨v, he, hl⟩, hb⟩
                obtain ⟨b, rfl⟩ := hl.fine (rt_some hq).1
                exact ⟨b, he, hl, hb⟩)⟩
              clear ih hk hi h0 hlt hsz hs hs' ht hc hb h1 h2 h3 hc2 hr2 IH IH2 hd h4 ht' HR HB HT
              cases hq : rt S k (i + 2) with
              | none =>
                have C1 := C1n hq
                rw [Option.bind_none]
                clear C1n C1s C2n C2s hq
                rcases hAB with rfl | rfl
                all_goals
                  clear n1 n2
                  go_enter Try.func61, Try.ntmps61
                  go_wp2_with (first | (go_at_call 83; (with_reducible refine (HX.out _).mono ?_); rintro e w' ⟨rfl, rfl⟩) | (go_at_call 61; (with_reducible refine (C1.out _).mono ?_); rintro e w1 ⟨rfl, hb1⟩; have RB := Aside0.mk (blk_below HR1.out hb1); have BB := Aside0.mk (HB1.out.trans (hb1.mono HB1.out.size)); clear hb1; have r0 : w1.cell? ⟨w.heap.size, 0, none⟩ = some (.int .u8 _) := blk_cell RB.out 0; have r1 : w1.cell? ⟨w.heap.size, 1, none⟩ = some (.int .i64 d) := blk_cell RB.out 1; have r2 : w1.cell? ⟨w.heap.size, 2, none⟩ = some (.pointer none) := blk_cell RB.out 2; have r3 : w1.cell? ⟨w.heap.size, 3, none⟩ = some (.pointer none) := blk_cell RB.out 3; have rz2 := blk_frozen RB.out 2; have rz3 := blk_frozen RB.out 3))
                  go_ret2
                  exact ⟨rfl, BB.out.setCell (p := ⟨w.heap.size, 2, none⟩) (Nat.le_refl _) _⟩
              | some p =>
                obtain ⟨T, j⟩ := p
                obtain ⟨f1, f2, f3, f4⟩ := rt_some hq
                have C1 := C1s T j hq
                rw [Option.bind_some]
                simp only []
                cases hq2 : rt S k j with
                | none =>
                  have C2 := C2n j (by omega) f3 hq2
                  rw [Option.bind_none]
                  obtain ⟨t2, ht2⟩ : ∃ t2, t2 = S.extract j S.size := ⟨_, rfl⟩
                  rw [← ht2] at C1 C2
                  clear C1n C1s C2n C2s hq hq2 f1 f2 f3 f4 ht2
                  rcases hAB with rfl | rfl
                  all_goals
                    clear n1 n2
                    go_enter Try.func61, Try.ntmps61
                    go_wp2_with (first | (go_at_call 83; (with_reducible refine (HX.out _).mono ?_); rintro e w' ⟨rfl, rfl⟩) | (go_at_call 61; (with_reducible refine (C1.out _).mono ?_); rintro e w1 ⟨b1, rfl, hl1, hb1⟩; have L1 : Aside0 (impl_readTurn.Lies (w.heap.size + 1) w1 T (.pointer (some ⟨b1, 0, none⟩))) := ⟨by rw [HZ1.out] at hl1; exact hl1⟩; have RB := Aside0.mk (blk_below HR1.out hb1); have BB := Aside0.mk (HB1.out.trans (hb1.mono HB1.out.size)); clear hb1 hl1; have r0 : w1.cell? ⟨w.heap.size, 0, none⟩ = some (.int .u8 _) := blk_cell RB.out 0; have r1 : w1.cell? ⟨w.heap.size, 1, none⟩ = some (.int .i64 d) := blk_cell RB.out 1; have r2 : w1.cell? ⟨w.heap.size, 2, none⟩ = some (.pointer none) := blk_cell RB.out 2; have r3 : w1.cell? ⟨w.heap.size, 3, none⟩ = some (.pointer none) := blk_cell RB.out 3; have rz2 := blk_frozen RB.out 2; have rz3 := blk_frozen RB.out 3) | (go_at_call 61; (with_reducible refine (C2.out _).mono ?_); rintro e w2 ⟨rfl, hb2⟩; have RC : Aside0 ((w1.setCell ⟨w.heap.size, 2, none⟩ (.pointer (some ⟨b1, 0, none⟩))).heap[w.heap.size]? = some (.cells #[.int .u8 _, .int .i64 d, .pointer (some ⟨b1, 0, none⟩), .pointer none] 52 (0, 0))) := ⟨by simpa using blk_set RB.out 2 (.pointer (some ⟨b1, 0, none⟩))⟩; have BC := Aside0.mk (BB.out.setCell (p := ⟨w.heap.size, 2, none⟩) (Nat.le_refl _) (.pointer (some ⟨b1, 0, none⟩))); have RD := Aside0.mk (blk_below RC.out hb2); have BD := Aside0.mk (BC.out.trans (hb2.mono BC.out.size)); have L2 := Aside0.mk ((L1.out.far (g := w.heap.size) (by omega) 2 (.pointer (some ⟨b1, 0, none⟩))).below hb2); clear hb2; have s0 : w2.cell? ⟨w.heap.size, 0, none⟩ = some (.int .u8 _) := blk_cell RD.out 0; have s1 : w2.cell? ⟨w.heap.size, 1, none⟩ = some (.int .i64 d) := blk_cell RD.out 1; have s2 : w2.cell? ⟨w.heap.size, 2, none⟩ = some (.pointer (some ⟨b1, 0, none⟩)) := blk_cell RD.out 2; have s3 : w2.cell? ⟨w.heap.size, 3, none⟩ = some (.pointer none) := blk_cell RD.out 3; have sz2 := blk_frozen RD.out 2; have sz3 := blk_frozen RD.out 3; clear r0 r1 r2 r3 rz2 rz3))
                    go_ret2
                    exact ⟨rfl, BD.out.setCell (p := ⟨w.heap.size, 3, none⟩) (Nat.le_refl _) _⟩
                | some q =>
                  obtain ⟨T2, m⟩ := q
                  have C2 := C2s j (by omega) f3 T2 m hq2
                  rw [Option.bind_some]
                  obtain ⟨t2, ht2⟩ : ∃ t2, t2 = S.extract j S.size := ⟨_, rfl⟩
                  rw [← ht2] at C1 C2
                  obtain ⟨t3, ht3⟩ : ∃ t3, t3 = S.extract m S.size := ⟨_, rfl⟩
                  rw [← ht3] at C2
                  have HT3 := Aside0.mk ht3
                  clear C1n C1s C2n C2s hq hq2 f1 f2 f3 f4 ht2 ht3
                  rcases hAB with rfl | rfl
                  all_goals
                    clear n1 n2
                    go_enter Try.func61, Try.ntmps61
                    go_wp2_with (first | (go_at_call 83; (with_reducible refine (HX.out _).mono ?_); rintro e w' ⟨rfl, rfl⟩) | (go_at_call 61; (with_reducible refine (C1.out _).mono ?_); rintro e w1 ⟨b1, rfl, hl1, hb1⟩; have L1 : Aside0 (impl_readTurn.Lies (w.heap.size + 1) w1 T (.pointer (some ⟨b1, 0, none⟩))) := ⟨by rw [HZ1.out] at hl1; exact hl1⟩; have RB := Aside0.mk (blk_below HR1.out hb1); have BB := Aside0.mk (HB1.out.trans (hb1.mono HB1.out.size)); clear hb1 hl1; have r0 : w1.cell? ⟨w.heap.size, 0, none⟩ = some (.int .u8 _) := blk_cell RB.out 0; have r1 : w1.cell? ⟨w.heap.size, 1, none⟩ = some (.int .i64 d) := blk_cell RB.out 1; have r2 : w1.cell? ⟨w.heap.size, 2, none⟩ = some (.pointer none) := blk_cell RB.out 2; have r3 : w1.cell? ⟨w.heap.size, 3, none⟩ = some (.pointer none) := blk_cell RB.out 3; have rz2 := blk_frozen RB.out 2; have rz3 := blk_frozen RB.out 3) | (go_at_call 61; (with_reducible refine (C2.out _).mono ?_); rintro e w2 ⟨b2, rfl, hl2, hb2⟩; have RC : Aside0 ((w1.setCell ⟨w.heap.size, 2, none⟩ (.pointer (some ⟨b1, 0, none⟩))).heap[w.heap.size]? = some (.cells #[.int .u8 _, .int .i64 d, .pointer (some ⟨b1, 0, none⟩), .pointer none] 52 (0, 0))) := ⟨by simpa using blk_set RB.out 2 (.pointer (some ⟨b1, 0, none⟩))⟩; have BC := Aside0.mk (BB.out.setCell (p := ⟨w.heap.size, 2, none⟩) (Nat.le_refl _) (.pointer (some ⟨b1, 0, none⟩))); have RD := Aside0.mk (blk_below RC.out hb2); have BD := Aside0.mk (BC.out.trans (hb2.mono BC.out.size)); have L2 := Aside0.mk ((L1.out.far (g := w.heap.size) (by omega) 2 (.pointer (some ⟨b1, 0, none⟩))).below hb2); have L3 : Aside0 (impl_readTurn.Lies (w.heap.size + 1) w2 T2 (.pointer (some ⟨b2, 0, none⟩))) := ⟨hl2.mono (by have h := blk_lt RC.out; omega)⟩; clear hb2 hl2; have s0 : w2.cell? ⟨w.heap.size, 0, none⟩ = some (.int .u8 _) := blk_cell RD.out 0; have s1 : w2.cell? ⟨w.heap.size, 1, none⟩ = some (.int .i64 d) := blk_cell RD.out 1; have s2 : w2.cell? ⟨w.heap.size, 2, none⟩ = some (.pointer (some ⟨b1, 0, none⟩)) := blk_cell RD.out 2; have s3 : w2.cell? ⟨w.heap.size, 3, none⟩ = some (.pointer none) := blk_cell RD.out 3; have sz2 := blk_frozen RD.out 2; have sz3 := blk_frozen RD.out 3; clear r0 r1 r2 r3 rz2 rz3))
                    go_ret2
                    have RE := blk_set RD.out 3 (.pointer (some ⟨b2, 0, none⟩))
                    refine ⟨⟨.pointer (some ⟨w.heap.size, 0, none⟩), (by rw [← HT3.out]; try rfl), ⟨w.heap.size, .pointer (some ⟨b1, 0, none⟩), .pointer (some ⟨b2, 0, none⟩), Nat.le_refl _, rfl, by simpa using blk_cell RE 0, by simpa using blk_cell RE 1, by simpa using blk_cell RE 2, by simpa using blk_cell RE 3, ?_, ?_⟩⟩, BD.out.setCell (p := ⟨w.heap.size, 3, none⟩) (Nat.le_refl _) _⟩
                    · exact (L2.out.far (g := w.heap.size) (by omega) 3 _).mono (by omega)
                    · exact (L3.out.far (g := w.heap.size) (by omega) 3 _).mono (by omega)


end Go.Proofs.Ytlcgappojmdgfaa.Print
