/- Functions of the given program as plain Lean functions, with proofs that their calls compute them, or lemmas on these. Laid by a program of this repo for the seat Ytbcjfmimgamjeaa; Lean checks it. -/
import Derived.Test.YtbcjfmimgamjeaaKExactDepthOfTree0
import Derived.Test.YtbcjfmimgamjeaaKExactDepthOfTree2
import Derived.Test.YtbcjfmimgamjeaaM11
namespace Go.Proofs.Ytbcjfmimgamjeaa.Print
open Go.RowKit Go.Proofs.YtbcjfmimgamjeaaW.PrintWords Go.Proofs.YtbcjfmimgamjeaaW.PrintLast Go.Proofs.YtbcjfmimgamjeaaW.PrintMore
attribute [local go_sem] max2_int min2_int max_two min_two max_three min_three max_four min_four   -- for this text's walks alone
set_option linter.unusedVariables false
set_option linter.unusedSimpArgs false

--OWNPART
/-! ### impl_readTree: function 57 -/
--IMPORT M11
open Go.Proofs.Ytbcjfmimgamjeaa.M
/-- a tree lies in memory, its nodes in blocks from base on -/
def impl_readTree.Lies (base : Nat) (w : World) : Td → Value → Prop
  | .nil, v => v = .pointer none
  | .node c l r, v => ∃ b vl vr, base ≤ b ∧ v = .pointer (some ⟨b, 0, none⟩) ∧ w.cell? ⟨b, 0, none⟩ = some (.int .u8 c) ∧ w.cell? ⟨b, 1, none⟩ = some vl ∧ w.cell? ⟨b, 2, none⟩ = some vr ∧ impl_readTree.Lies base w l vl ∧ impl_readTree.Lies base w r vr
theorem impl_readTree.Lies.below {base : Nat} {w w' : World} (hb : Below w.heap.size w w') : ∀ {T : Td} {v : Value}, impl_readTree.Lies base w T v → impl_readTree.Lies base w' T v
  | .nil, v, h => h
  | .node c l r, v, h => by
    obtain ⟨b, vl, vr, h0, h1, h2, h3, h4, h5, h6⟩ := h
    have hlt : b < w.heap.size := World.block_lt_of_cell? w ⟨b, 0, none⟩ h2
    exact ⟨b, vl, vr, h0, h1, (hb.cell (p := ⟨b, 0, none⟩) hlt).trans h2, (hb.cell (p := ⟨b, 1, none⟩) hlt).trans h3, (hb.cell (p := ⟨b, 2, none⟩) hlt).trans h4, impl_readTree.Lies.below hb h5, impl_readTree.Lies.below hb h6⟩
theorem impl_readTree.Lies.mono {base base' : Nat} {w : World} (hb : base' ≤ base) : ∀ {T : Td} {v : Value}, impl_readTree.Lies base w T v → impl_readTree.Lies base' w T v
  | .nil, v, h => h
  | .node c l r, v, h => by
    obtain ⟨b, vl, vr, h0, h1, h2, h3, h4, h5, h6⟩ := h
    exact ⟨b, vl, vr, by omega, h1, h2, h3, h4, impl_readTree.Lies.mono hb h5, impl_readTree.Lies.mono hb h6⟩
theorem impl_readTree.Lies.far {base g : Nat} {w : World} (hg : g < base) (j : Nat) (x : Value) : ∀ {T : Td} {v : Value}, impl_readTree.Lies base w T v → impl_readTree.Lies base (w.setCell ⟨g, j, none⟩ x) T v
  | .nil, v, h => h
  | .node c l r, v, h => by
    obtain ⟨b, vl, vr, h0, h1, h2, h3, h4, h5, h6⟩ := h
    have hne : ∀ k, (w.setCell ⟨g, j, none⟩ x).cell? ⟨b, k, none⟩ = w.cell? ⟨b, k, none⟩ := fun k => by
      have := Below.heap_setCell w ⟨g, j, none⟩ x b (by show b ≠ g; omega)
      simp only [World.cell?, this]
    exact ⟨b, vl, vr, h0, h1, (hne 0).trans h2, (hne 1).trans h3, (hne 2).trans h4, impl_readTree.Lies.far hg j x h5, impl_readTree.Lies.far hg j x h6⟩
theorem impl_readTree.Lies.fine {base a : Nat} {w : World} {T : Td} {v : Value} (hT : Dt a T) (h : impl_readTree.Lies base w T v) : ∃ b, v = .pointer (some ⟨b, 0, none⟩) := by
  obtain ⟨_, _, _, rfl⟩ := hT.ne
  obtain ⟨b, _, _, _, h1, _⟩ := h; exact ⟨b, h1⟩
/-- what the call gives back -/
def impl_readTree.Out (S : ByteArray) (w : World) (p : Option (Td × Nat)) (e : Ending) (w' : World) : Prop :=
  (match p with
  | none => e = .returned (.tuple #[.pointer none, .string ⟨#[]⟩])
  | some (T, j) => ∃ v, e = .returned (.tuple #[v, .string (S.extract j S.size)]) ∧ impl_readTree.Lies w.heap.size w' T v) ∧ Below w.heap.size w w'
theorem impl_readTree.vari (b : Nat) (c : Int) (w : World) (hc : 97 ≤ c ∧ c < 102) (h : w.cell? ⟨b, 0, none⟩ = some (.int .u8 c)) : Calls Try.prog 81 #[.pointer (some ⟨b, 0, none⟩)] w fun e w' => e = .returned (.int .i64 (c - 97)) ∧ Drawn0 w w' := by
  have e : (c - 97) % 256 = c - 97 := by omega
  have e2 : wrap64 (c - 97) = c - 97 := w64 (by omega) (by omega)
  clear hc
  go_enter Try.func81, Try.ntmps81
  go_wp2_with (fail)
  go_ret
  exact ⟨rfl, Drawn0.refl _⟩
set_option maxHeartbeats 4000000 in
theorem impl_readTree.call (S : ByteArray) (hS : S.size ≤ 1000000000) : ∀ k i a w, a < 32 → fre a < k → i ≤ S.size → Calls Try.prog 57 #[.string (S.extract i S.size), .int .i64 (a : Int)] w (impl_readTree.Out S w (tp S k i a)) := by
  intro k
  induction k with
  | zero => intro i a w _ h; omega
  | succ k ih =>
    intro i a w ha hk hi
    by_cases h0 : S.size ≤ i
    · have hz : S.extract i S.size = ⟨#[]⟩ := by
        apply ByteArray.ext; apply Array.eq_empty_of_size_eq_zero
        show (S.extract i S.size).size = 0
        simp [ByteArray.size_extract]; omega
      rw [hz, tp, if_pos h0]
      clear hk hi hS hz h0 ih ha
      go_enter Try.func57, Try.ntmps57
      go_wp2_with (fail)
      go_ret2
      exact ⟨rfl, Below.refl _ _⟩
    · have hlt : i < S.size := by omega
      have hb := bt_extract hlt
      have hx := extract_extract (S := S) 1 (show i + 1 ≤ S.size by omega)
      have hsz : (S.extract i S.size).size = S.size - i := by simp [ByteArray.size_extract]
      rw [tp, if_neg h0]
      obtain ⟨s, hs⟩ : ∃ s, s = S.extract i S.size := ⟨_, rfl⟩
      obtain ⟨t, ht⟩ : ∃ t, t = S.extract (i + 1) S.size := ⟨_, rfl⟩
      obtain ⟨c, hc⟩ : ∃ c, c = bt S i := ⟨_, rfl⟩
      rw [← ht] at hx
      rw [← hs] at hb hsz hx ⊢
      rw [← hc] at hb ⊢
      have hp : 0 < s.size := by omega
      rw [← hsz] at hx
      have hne : s.toList.isEmpty = false := by
        rw [List.isEmpty_eq_false_iff]
        intro e
        have h := congrArg List.length e
        rw [toList_len] at h
        simp only [List.length_nil] at h; omega
      have hbt : ((s[0]'hp).toNat : Int) = c := by
        have h := bt_at s 0 (by simpa using hp)
        rw [hb] at h; simpa using h
      have HT := Aside0.mk ht
      have HR : ∀ nd, Aside0 (((w.alloc (.cells #[.int .u8 c, .pointer none, .pointer none] 69)).drewN nd).heap[w.heap.size]? = some (.cells #[.int .u8 c, .pointer none, .pointer none] 69 (0, 0))) := fun nd => ⟨by simpa using blk_new w (.cells #[.int .u8 c, .pointer none, .pointer none] 69)⟩
      have HB : ∀ nd, Aside0 (Below w.heap.size w ((w.alloc (.cells #[.int .u8 c, .pointer none, .pointer none] 69)).drewN nd)) := fun nd => ⟨pw_below_drewN ((Below.refl _ _).alloc (Nat.le_refl _) _) nd⟩
      have HZ : ∀ nd, Aside0 (((w.alloc (.cells #[.int .u8 c, .pointer none, .pointer none] 69)).drewN nd).heap.size = w.heap.size + 1) := fun nd => ⟨by simp⟩
      by_cases h1 : c = 48 ∨ c = 49
      · rw [if_pos h1]
        have fin : ∀ nd, impl_readTree.Out S w (some (.node c .nil .nil, i + 1)) (.returned (.tuple #[.pointer (some ⟨w.heap.size, 0, none⟩), .string t])) ((w.alloc (.cells #[.int .u8 c, .pointer none, .pointer none] 69)).drewN nd) := fun nd => by
          rw [HT.out]
          exact ⟨⟨_, rfl, ⟨w.heap.size, .pointer none, .pointer none, Nat.le_refl _, rfl, blk_cell (HR nd).out 0, blk_cell (HR nd).out 1, blk_cell (HR nd).out 2, rfl, rfl⟩⟩, (HB nd).out⟩
        have FIN := Aside0.mk fin
        clear fin ih hk hi h0 hlt hsz hs ht hc hb ha
        rcases h1 with rfl | rfl
        all_goals
          go_enter Try.func57, Try.ntmps57
          go_wp2_with (fail)
          go_ret2
          exact FIN.out 0
      · rw [if_neg h1]
        have n1 : (c == 48) = false := beq_eq_false_iff_ne.mpr (fun e => h1 (.inl e))
        have n2 : (c == 49) = false := beq_eq_false_iff_ne.mpr (fun e => h1 (.inr e))
        by_cases h2 : 97 ≤ c ∧ c < 102
        · rw [if_neg (fun e => e h2)]
          have A1 : Aside0 (impl_isLetter.f c = some true) := ⟨by unfold impl_isLetter.f; rw [if_pos (by omega), decide_eq_true (by omega)]⟩
          have AV := Aside0.mk (fun W (hb : Below w.heap.size w W) (h : W.heap[w.heap.size]? = some (.cells #[.int .u8 c, .pointer none, .pointer none] 69 (0, 0))) => impl_readTree.vari w.heap.size c W h2 (blk_cell h 0))
          obtain ⟨v, hv⟩ : ∃ v : Nat, c - 97 = (v : Int) := ⟨(c - 97).toNat, by omega⟩
          have hv5 : v < 5 := by omega
          have evr : vr c = v := by unfold vr; omega
          rw [hv] at AV
          rw [evr]
          have ht2 : (Go.bits .and .i64 ((a : Int) / 2 ^ v) 1 == 1) = a.testBit v := by
            have h := bit_nat (a := a) (n := v) (by omega) (by omega)
            rw [shr_nat (by omega)] at h
            have e : ((a / 2 ^ v : Nat) : Int) = (a : Int) / 2 ^ v := by push_cast; rfl
            rw [e] at h
            rw [h]; cases a.testBit v <;> rfl
          have hw2 : Go.bits .or .i64 (a : Int) (wrap64 (2 ^ v)) = ((wth a v : Nat) : Int) := by
            have h := shl_one (n := v) (by omega)
            have e : shl .i64 1 (v : Int) = wrap64 (2 ^ v) := by unfold shl; rw [min_bits (by omega), Int.one_mul, i64_w]
            have hlt : 2 ^ v < 2 ^ 63 := Nat.pow_lt_pow_right (by decide) (by omega)
            rw [← e, h, or_nat (by omega) hlt]; rfl
          have hv64 : v ≤ 64 := by omega
          cases h3 : a.testBit v with
          | true =>
            rw [if_pos rfl]
            rw [h3] at ht2
            clear ih hk hi h0 hlt hsz hs ht hc hb h1 h2 h3 hw2
            go_enter Try.func57, Try.ntmps57
            go_wp2_with (first | (go_at_call 80; (with_reducible refine (impl_isLetter.calls _ true _ A1.out).mono ?_); rintro e w' ⟨rfl, ⟨nd, rfl⟩⟩) | (go_at_call 81; (with_reducible refine (AV.out _ ?s1 ?s2).mono ?_); (case s1 => exact (HB _).out); (case s2 => exact (HR _).out); rintro e w' ⟨rfl, ⟨nd2, rfl⟩⟩))
            go_ret2
            exact ⟨rfl, (HB _).out⟩
          | false =>
            rw [if_neg (by decide)]
            rw [h3] at ht2
            obtain ⟨w1', w2', _⟩ := wth_fre a ha v hv5 h3
            have IH := Aside0.mk (fun W => ih (i + 1) (wth a v) W w2' (by omega) (by omega))
            have IH2 := Aside0.mk (fun j W (h : j ≤ S.size) => ih j (wth a v) W w2' (by omega) h)
            rw [← ht] at IH
            have TS := Aside0.mk (fun (j : Nat) (T : Td) (m : Nat) (h : tp S k j (wth a v) = some (T, m)) => tp_some w2' h)
            generalize wth a v = a2 at *
            clear ih hk hi h0 hlt hsz hs ht hc hb h1 h2 h3 w1' w2' ha
            have C1n : tp S k (i + 1) a2 = none → Aside0 (∀ W, Calls Try.prog 57 #[.string t, .int .i64 (a2 : Int)] W fun e W' => e = .returned (.tuple #[.pointer none, .string ⟨#[]⟩]) ∧ Below W.heap.size W W') := fun hq => ⟨fun W => by have h := IH.out W; rw [hq] at h; exact h⟩
            have C1s : ∀ T j, tp S k (i + 1) a2 = some (T, j) → Aside0 (∀ W, Calls Try.prog 57 #[.string t, .int .i64 (a2 : Int)] W fun e W' => ∃ b, e = .returned (.tuple #[.pointer (some ⟨b, 0, none⟩), .string (S.extract j S.size)]) ∧ impl_readTree.Lies W.heap.size W' T (.pointer (some ⟨b, 0, none⟩)) ∧ Below W.heap.size W W') := fun T j hq => ⟨fun W => (IH.out W).mono (by
              rw [hq]; rintro e W' ⟨⟨v, he, hl⟩, hb⟩
              obtain ⟨b, rfl⟩ := hl.fine (TS.out _ _ _ hq).1
              exact ⟨b, he, hl, hb⟩)⟩
            have C2n : ∀ j, j ≤ S.size → tp S k j a2 = none → Aside0 (∀ W, Calls Try.prog 57 #[.string (S.extract j S.size), .int .i64 (a2 : Int)] W fun e W' => e = .returned (.tuple #[.pointer none, .string ⟨#[]⟩]) ∧ Below W.heap.size W W') := fun j h2 hq => ⟨fun W => by have h := IH2.out j W h2; rw [hq] at h; exact h⟩
            have C2s : ∀ j, j ≤ S.size → ∀ T m, tp S k j a2 = some (T, m) → Aside0 (∀ W, Calls Try.prog 57 #[.string (S.extract j S.size), .int .i64 (a2 : Int)] W fun e W' => ∃ b, e = .returned (.tuple #[.pointer (some ⟨b, 0, none⟩), .string (S.extract m S.size)]) ∧ impl_readTree.Lies W.heap.size W' T (.pointer (some ⟨b, 0, none⟩)) ∧ Below W.heap.size W W') := fun j h2 T m hq => ⟨fun W => (IH2.out j W h2).mono (by
              rw [hq]; rintro e W' ⟨⟨v, he, hl⟩, hb⟩
              obtain ⟨b, rfl⟩ := hl.fine (TS.out _ _ _ hq).1
              exact ⟨b, he, hl, hb⟩)⟩
            cases hq : tp S k (i + 1) a2 with
            | none =>
              have C1 := C1n hq
              rw [Option.bind_none]
              clear C1n C1s C2n C2s hq IH IH2 TS
              go_enter Try.func57, Try.ntmps57
              go_wp2_with (first | (go_at_call 80; (with_reducible refine (impl_isLetter.calls _ true _ A1.out).mono ?_); rintro e w' ⟨rfl, ⟨nd, rfl⟩⟩) | (go_at_call 81; (with_reducible refine (AV.out _ ?s1 ?s2).mono ?_); (case s1 => exact (HB _).out); (case s2 => exact (HR _).out); rintro e w' ⟨rfl, ⟨nd2, rfl⟩⟩) | (go_at_call 57; (with_reducible refine (C1.out _).mono ?_); rintro e w1 ⟨rfl, hb1⟩; have RB := Aside0.mk (blk_below (HR _).out hb1); have BB := Aside0.mk ((HB _).out.trans (hb1.mono (HB _).out.size)); clear hb1; have r0 : w1.cell? ⟨w.heap.size, 0, none⟩ = some (.int .u8 c) := blk_cell RB.out 0; have r1 : w1.cell? ⟨w.heap.size, 1, none⟩ = some (.pointer none) := blk_cell RB.out 1; have r2 : w1.cell? ⟨w.heap.size, 2, none⟩ = some (.pointer none) := blk_cell RB.out 2; have z1 := blk_frozen RB.out 1; have z2 := blk_frozen RB.out 2))
              go_ret2
              exact ⟨rfl, BB.out.setCell (p := ⟨w.heap.size, 1, none⟩) (Nat.le_refl _) _⟩
            | some p =>
              obtain ⟨T, j⟩ := p
              obtain ⟨f1, f2, f3, f4⟩ := TS.out _ _ _ hq
              have C1 := C1s T j hq
              rw [Option.bind_some]
              simp only []
              cases hq2 : tp S k j a2 with
              | none =>
                have C2 := C2n j f3 hq2
                rw [Option.bind_none]
                obtain ⟨t2, ht2'⟩ : ∃ t2, t2 = S.extract j S.size := ⟨_, rfl⟩
                rw [← ht2'] at C1 C2
                clear C1n C1s C2n C2s hq hq2 IH IH2 TS f1 f2 f3 f4 ht2'
                go_enter Try.func57, Try.ntmps57
                go_wp2_with (first | (go_at_call 80; (with_reducible refine (impl_isLetter.calls _ true _ A1.out).mono ?_); rintro e w' ⟨rfl, ⟨nd, rfl⟩⟩) | (go_at_call 81; (with_reducible refine (AV.out _ ?s1 ?s2).mono ?_); (case s1 => exact (HB _).out); (case s2 => exact (HR _).out); rintro e w' ⟨rfl, ⟨nd2, rfl⟩⟩) | (go_at_call 57; (with_reducible refine (C1.out _).mono ?_); rintro e w1 ⟨b1, rfl, hl1, hb1⟩; have L1 : Aside0 (impl_readTree.Lies (w.heap.size + 1) w1 T (.pointer (some ⟨b1, 0, none⟩))) := ⟨by rw [(HZ _).out] at hl1; exact hl1⟩; have RB := Aside0.mk (blk_below (HR _).out hb1); have BB := Aside0.mk ((HB _).out.trans (hb1.mono (HB _).out.size)); clear hb1 hl1; have r0 : w1.cell? ⟨w.heap.size, 0, none⟩ = some (.int .u8 c) := blk_cell RB.out 0; have r1 : w1.cell? ⟨w.heap.size, 1, none⟩ = some (.pointer none) := blk_cell RB.out 1; have r2 : w1.cell? ⟨w.heap.size, 2, none⟩ = some (.pointer none) := blk_cell RB.out 2; have z1 := blk_frozen RB.out 1; have z2 := blk_frozen RB.out 2) | (go_at_call 57; (with_reducible refine (C2.out _).mono ?_); rintro e w2 ⟨rfl, hb2⟩; have RC : Aside0 ((w1.setCell ⟨w.heap.size, 1, none⟩ (.pointer (some ⟨b1, 0, none⟩))).heap[w.heap.size]? = some (.cells #[.int .u8 c, .pointer (some ⟨b1, 0, none⟩), .pointer none] 69 (0, 0))) := ⟨by simpa using blk_set RB.out 1 (.pointer (some ⟨b1, 0, none⟩))⟩; have BC := Aside0.mk (BB.out.setCell (p := ⟨w.heap.size, 1, none⟩) (Nat.le_refl _) (.pointer (some ⟨b1, 0, none⟩))); have RD := Aside0.mk (blk_below RC.out hb2); have BD := Aside0.mk (BC.out.trans (hb2.mono BC.out.size)); have L2 := Aside0.mk (((L1.out.far (g := w.heap.size) (by omega) 1 (.pointer (some ⟨b1, 0, none⟩)))).below hb2); clear hb2; have s0 : w2.cell? ⟨w.heap.size, 0, none⟩ = some (.int .u8 c) := blk_cell RD.out 0; have s1 : w2.cell? ⟨w.heap.size, 1, none⟩ = some (.pointer (some ⟨b1, 0, none⟩)) := blk_cell RD.out 1; have s2 : w2.cell? ⟨w.heap.size, 2, none⟩ = some (.pointer none) := blk_cell RD.out 2; have y1 := blk_frozen RD.out 1; have y2 := blk_frozen RD.out 2; clear r0 r1 r2 z1 z2))
                go_ret2
                exact ⟨rfl, BD.out.setCell (p := ⟨w.heap.size, 2, none⟩) (Nat.le_refl _) _⟩
              | some q =>
                obtain ⟨T2, m⟩ := q
                have C2 := C2s j f3 T2 m hq2
                rw [Option.bind_some]
                obtain ⟨t2, ht2'⟩ : ∃ t2, t2 = S.extract j S.size := ⟨_, rfl⟩
                rw [← ht2'] at C1 C2
                obtain ⟨t3, ht3⟩ : ∃ t3, t3 = S.extract m S.size := ⟨_, rfl⟩
                rw [← ht3] at C2
                have HT3 := Aside0.mk ht3
                clear C1n C1s C2n C2s hq hq2 IH IH2 TS f1 f2 f3 f4 ht2' ht3
                go_enter Try.func57, Try.ntmps57
                go_wp2_with (first | (go_at_call 80; (with_reducible refine (impl_isLetter.calls _ true _ A1.out).mono ?_); rintro e w' ⟨rfl, ⟨nd, rfl⟩⟩) | (go_at_call 81; (with_reducible refine (AV.out _ ?s1 ?s2).mono ?_); (case s1 => exact (HB _).out); (case s2 => exact (HR _).out); rintro e w' ⟨rfl, ⟨nd2, rfl⟩⟩) | (go_at_call 57; (with_reducible refine (C1.out _).mono ?_); rintro e w1 ⟨b1, rfl, hl1, hb1⟩; have L1 : Aside0 (impl_readTree.Lies (w.heap.size + 1) w1 T (.pointer (some ⟨b1, 0, none⟩))) := ⟨by rw [(HZ _).out] at hl1; exact hl1⟩; have RB := Aside0.mk (blk_below (HR _).out hb1); have BB := Aside0.mk ((HB _).out.trans (hb1.mono (HB _).out.size)); clear hb1 hl1; have r0 : w1.cell? ⟨w.heap.size, 0, none⟩ = some (.int .u8 c) := blk_cell RB.out 0; have r1 : w1.cell? ⟨w.heap.size, 1, none⟩ = some (.pointer none) := blk_cell RB.out 1; have r2 : w1.cell? ⟨w.heap.size, 2, none⟩ = some (.pointer none) := blk_cell RB.out 2; have z1 := blk_frozen RB.out 1; have z2 := blk_frozen RB.out 2) | (go_at_call 57; (with_reducible refine (C2.out _).mono ?_); rintro e w2 ⟨b2, rfl, hl2, hb2⟩; have RC : Aside0 ((w1.setCell ⟨w.heap.size, 1, none⟩ (.pointer (some ⟨b1, 0, none⟩))).heap[w.heap.size]? = some (.cells #[.int .u8 c, .pointer (some ⟨b1, 0, none⟩), .pointer none] 69 (0, 0))) := ⟨by simpa using blk_set RB.out 1 (.pointer (some ⟨b1, 0, none⟩))⟩; have BC := Aside0.mk (BB.out.setCell (p := ⟨w.heap.size, 1, none⟩) (Nat.le_refl _) (.pointer (some ⟨b1, 0, none⟩))); have RD := Aside0.mk (blk_below RC.out hb2); have BD := Aside0.mk (BC.out.trans (hb2.mono BC.out.size)); have L2 := Aside0.mk (((L1.out.far (g := w.heap.size) (by omega) 1 (.pointer (some ⟨b1, 0, none⟩)))).below hb2); have L3 : Aside0 (impl_readTree.Lies (w.heap.size + 1) w2 T2 (.pointer (some ⟨b2, 0, none⟩))) := ⟨hl2.mono (by have h := blk_lt RC.out; omega)⟩; clear hb2 hl2; have s0 : w2.cell? ⟨w.heap.size, 0, none⟩ = some (.int .u8 c) := blk_cell RD.out 0; have s1 : w2.cell? ⟨w.heap.size, 1, none⟩ = some (.pointer (some ⟨b1, 0, none⟩)) := blk_cell RD.out 1; have s2 : w2.cell? ⟨w.heap.size, 2, none⟩ = some (.pointer none) := blk_cell RD.out 2; have y1 := blk_frozen RD.out 1; have y2 := blk_frozen RD.out 2; clear r0 r1 r2 z1 z2))
                go_ret2
                have RE := blk_set RD.out 2 (.pointer (some ⟨b2, 0, none⟩))
                refine ⟨⟨.pointer (some ⟨w.heap.size, 0, none⟩), (by rw [← HT3.out]; try rfl), ⟨w.heap.size, .pointer (some ⟨b1, 0, none⟩), .pointer (some ⟨b2, 0, none⟩), Nat.le_refl _, rfl, by simpa using blk_cell RE 0, by simpa using blk_cell RE 1, by simpa using blk_cell RE 2, ?_, ?_⟩⟩, BD.out.setCell (p := ⟨w.heap.size, 2, none⟩) (Nat.le_refl _) _⟩
                · exact (L2.out.far (g := w.heap.size) (by omega) 2 _).mono (by omega)
                · exact (L3.out.far (g := w.heap.size) (by omega) 2 _).mono (by omega)
        · rw [if_pos h2]
          have A1 : Aside0 (impl_isLetter.f c = some false) := ⟨by
            unfold impl_isLetter.f
            by_cases h3 : c ≥ 97
            · rw [if_pos h3, decide_eq_false (by omega)]
            · rw [if_neg h3]⟩
          clear ih hk hi h0 hlt hsz hs ht hc hb ha h1 h2
          go_enter Try.func57, Try.ntmps57
          go_wp2_with (first | (go_at_call 80; (with_reducible refine (impl_isLetter.calls _ false _ A1.out).mono ?_); rintro e w' ⟨rfl, ⟨nd, rfl⟩⟩))
          go_ret2
          exact ⟨rfl, (HB _).out⟩


end Go.Proofs.Ytbcjfmimgamjeaa.Print
