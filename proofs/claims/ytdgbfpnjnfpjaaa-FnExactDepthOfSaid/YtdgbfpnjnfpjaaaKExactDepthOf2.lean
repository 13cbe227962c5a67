/- Functions of the given program as plain Lean functions, with proofs that their calls compute them, or lemmas on these. Laid by a program of this repo for the seat Ytdgbfpnjnfpjaaa; Lean checks it. -/
import Derived.Test.YtdgbfpnjnfpjaaaKExactDepthOf0
import Derived.Test.YtdgbfpnjnfpjaaaKExactDepthOf1
import Derived.Test.YtdgbfpnjnfpjaaaM6
namespace Go.Proofs.Ytdgbfpnjnfpjaaa.Print
open Go.RowKit Go.Proofs.YtdgbfpnjnfpjaaaW.PrintWords Go.Proofs.YtdgbfpnjnfpjaaaW.PrintLast Go.Proofs.YtdgbfpnjnfpjaaaW.PrintMore
attribute [local go_sem] max2_int min2_int max_two min_two max_three min_three max_four min_four   -- for this text's walks alone
set_option linter.unusedVariables false
set_option linter.unusedSimpArgs false

--OWNPART
/-! ### impl_readPart: function 93 -/
--IMPORT M6
open Go.Proofs.Ytdgbfpnjnfpjaaa.M
/-- a tree of signs lies in memory, its nodes in blocks from base on -/
def impl_readPart.Lies (base : Nat) (w : World) : Sh → Value → Prop
  | .nil, v => v = .pointer none
  | .node c l r, v => ∃ b vl vr, base ≤ b ∧ v = .pointer (some ⟨b, 0, none⟩) ∧ w.cell? ⟨b, 0, none⟩ = some (.int .u8 c) ∧ w.cell? ⟨b, 1, none⟩ = some vl ∧ w.cell? ⟨b, 2, none⟩ = some vr ∧ impl_readPart.Lies base w l vl ∧ impl_readPart.Lies base w r vr
theorem impl_readPart.Lies.below {base : Nat} {w w' : World} (hb : Below w.heap.size w w') : ∀ {T : Sh} {v : Value}, impl_readPart.Lies base w T v → impl_readPart.Lies base w' T v
  | .nil, v, h => h
  | .node c l r, v, h => by
    obtain ⟨b, vl, vr, h0, h1, h2, h3, h4, h5, h6⟩ := h
    have hlt : b < w.heap.size := World.block_lt_of_cell? w ⟨b, 0, none⟩ h2
    exact ⟨b, vl, vr, h0, h1, (hb.cell (p := ⟨b, 0, none⟩) hlt).trans h2, (hb.cell (p := ⟨b, 1, none⟩) hlt).trans h3, (hb.cell (p := ⟨b, 2, none⟩) hlt).trans h4, impl_readPart.Lies.below hb h5, impl_readPart.Lies.below hb h6⟩
theorem impl_readPart.Lies.mono {base base' : Nat} {w : World} (hb : base' ≤ base) : ∀ {T : Sh} {v : Value}, impl_readPart.Lies base w T v → impl_readPart.Lies base' w T v
  | .nil, v, h => h
  | .node c l r, v, h => by
    obtain ⟨b, vl, vr, h0, h1, h2, h3, h4, h5, h6⟩ := h
    exact ⟨b, vl, vr, by omega, h1, h2, h3, h4, impl_readPart.Lies.mono hb h5, impl_readPart.Lies.mono hb h6⟩
theorem impl_readPart.Lies.far {base g : Nat} {w : World} (hg : g < base) (j : Nat) (x : Value) : ∀ {T : Sh} {v : Value}, impl_readPart.Lies base w T v → impl_readPart.Lies base (w.setCell ⟨g, j, none⟩ x) T v
  | .nil, v, h => h
  | .node c l r, v, h => by
    obtain ⟨b, vl, vr, h0, h1, h2, h3, h4, h5, h6⟩ := h
    have hne : ∀ k, (w.setCell ⟨g, j, none⟩ x).cell? ⟨b, k, none⟩ = w.cell? ⟨b, k, none⟩ := fun k => by
      have := Below.heap_setCell w ⟨g, j, none⟩ x b (by show b ≠ g; omega)
      simp only [World.cell?, this]
    exact ⟨b, vl, vr, h0, h1, (hne 0).trans h2, (hne 1).trans h3, (hne 2).trans h4, impl_readPart.Lies.far hg j x h5, impl_readPart.Lies.far hg j x h6⟩
theorem impl_readPart.Lies.fine {base : Nat} {w : World} {T : Sh} {v : Value} (hT : Fine T) (h : impl_readPart.Lies base w T v) : ∃ b, v = .pointer (some ⟨b, 0, none⟩) := by
  cases hT with
  | leaf c => obtain ⟨b, _, _, _, h1, _⟩ := h; exact ⟨b, h1⟩
  | one c l _ => obtain ⟨b, _, _, _, h1, _⟩ := h; exact ⟨b, h1⟩
  | two c l r _ _ => obtain ⟨b, _, _, _, h1, _⟩ := h; exact ⟨b, h1⟩
/-- what the call gives back -/
def impl_readPart.Out (S : ByteArray) (w : World) (p : Option (Sh × Nat)) (e : Ending) (w' : World) : Prop :=
  (match p with
  | none => e = .returned (.tuple #[.pointer none, .string ⟨#[]⟩])
  | some (T, j) => ∃ v, e = .returned (.tuple #[v, .string (S.extract j S.size)]) ∧ impl_readPart.Lies w.heap.size w' T v) ∧ Below w.heap.size w w'
set_option maxHeartbeats 4000000 in
theorem impl_readPart.call (S : ByteArray) (hS : S.size ≤ 1000000) : ∀ k i w, S.size ≤ i + k → i ≤ S.size → Calls Try.prog 93 #[.string (S.extract i S.size)] w (impl_readPart.Out S w (rp S k i)) := by
  intro k
  induction k with
  | zero =>
    intro i w hk hi
    have hz : S.extract i S.size = ⟨#[]⟩ := by
      apply ByteArray.ext; apply Array.eq_empty_of_size_eq_zero
      show (S.extract i S.size).size = 0
      simp [ByteArray.size_extract]; omega
    rw [hz, rp]
    clear hk hi hS hz
    go_enter Try.func93, Try.ntmps93
    go_wp2_with (fail)
    go_ret2
    exact ⟨rfl, Below.refl _ _⟩
  | succ k ih =>
    intro i w hk hi
    by_cases h0 : S.size ≤ i
    · have hz : S.extract i S.size = ⟨#[]⟩ := by
        apply ByteArray.ext; apply Array.eq_empty_of_size_eq_zero
        show (S.extract i S.size).size = 0
        simp [ByteArray.size_extract]; omega
      rw [hz, rp, if_pos h0]
      clear hk hi hS hz h0
      go_enter Try.func93, Try.ntmps93
      go_wp2_with (fail)
      go_ret2
      exact ⟨rfl, Below.refl _ _⟩
    · have hlt : i < S.size := by omega
      have hb := bt_extract hlt
      have hx := extract_extract (S := S) 1 (show i + 1 ≤ S.size by omega)
      have hsz : (S.extract i S.size).size = S.size - i := by simp [ByteArray.size_extract]
      rw [rp, if_neg h0]
      obtain ⟨s, hs⟩ : ∃ s, s = S.extract i S.size := ⟨_, rfl⟩
      obtain ⟨t, ht⟩ : ∃ t, t = S.extract (i + 1) S.size := ⟨_, rfl⟩
      obtain ⟨c, hc⟩ : ∃ c, c = bt S i := ⟨_, rfl⟩
      have IH := Aside0.mk (fun w => ih (i + 1) w (by omega) (by omega))
      have IH2 := Aside0.mk (fun j w (h1 : i < j) (h2 : j ≤ S.size) => ih j w (by clear hsz; omega) h2)
      rw [← ht] at IH hx
      rw [← hs] at hb hsz hx ⊢
      rw [← hc] at hb ⊢
      have hp : 0 < s.size := by omega
      rw [← hsz] at hx
      have hne : s.toList.isEmpty = false := by
        rw [List.isEmpty_eq_false_iff]
        intro e
        have h := congrArg List.length e
        rw [toList_len] at h
        simp only [List.length_nil] at h; omega
      have hbt : ((s[0]'hp).toNat : Int) = c := by
        have h := bt_at s 0 (by simpa using hp)
        rw [hb] at h; simpa using h
      have HT := Aside0.mk ht
      have HR : ∀ nd, Aside0 (((w.alloc (.cells #[.int .u8 c, .pointer none, .pointer none] 87)).drewN nd).heap[w.heap.size]? = some (.cells #[.int .u8 c, .pointer none, .pointer none] 87 (0, 0))) := fun nd => ⟨by simpa using blk_new w (.cells #[.int .u8 c, .pointer none, .pointer none] 87)⟩
      have HB : ∀ nd, Aside0 (Below w.heap.size w ((w.alloc (.cells #[.int .u8 c, .pointer none, .pointer none] 87)).drewN nd)) := fun nd => ⟨pw_below_drewN ((Below.refl _ _).alloc (Nat.le_refl _) _) nd⟩
      have HZ : ∀ nd, Aside0 (((w.alloc (.cells #[.int .u8 c, .pointer none, .pointer none] 87)).drewN nd).heap.size = w.heap.size + 1) := fun nd => ⟨by simp⟩
      clear ih hk hi h0 hlt hsz hs ht hc hb
      by_cases h1 : isLet c
      · rw [if_pos h1]
        have fin : ∀ nd, impl_readPart.Out S w (some (.node c .nil .nil, i + 1)) (.returned (.tuple #[.pointer (some ⟨w.heap.size, 0, none⟩), .string t])) ((w.alloc (.cells #[.int .u8 c, .pointer none, .pointer none] 87)).drewN nd) := fun nd => by
          rw [HT.out]
          exact ⟨⟨_, rfl, ⟨w.heap.size, .pointer none, .pointer none, Nat.le_refl _, rfl, blk_cell (HR nd).out 0, blk_cell (HR nd).out 1, blk_cell (HR nd).out 2, rfl, rfl⟩⟩, (HB nd).out⟩
        have FIN := Aside0.mk fin
        clear fin
        by_cases h2 : 97 ≤ c ∧ c < 102
        · have A1 : Aside0 (impl_isLetter.f c = some true) := ⟨by unfold impl_isLetter.f; rw [if_pos (by omega), decide_eq_true (by omega)]⟩
          clear h1 h2
          go_enter Try.func93, Try.ntmps93
          go_wp2_with (first | (go_at_call 104; (with_reducible refine (impl_isLetter.calls c true _ A1.out).mono ?_); rintro e w' ⟨rfl, ⟨nd, rfl⟩⟩))
          go_ret2
          exact FIN.out _
        · have A1 : Aside0 (impl_isLetter.f c = some false) := ⟨by
            unfold impl_isLetter.f
            by_cases h3 : c ≥ 97
            · rw [if_pos h3, decide_eq_false (by omega)]
            · rw [if_neg h3]⟩
          obtain rfl | rfl : c = 48 ∨ c = 49 := by rcases h1 with h | h; exact absurd h h2; exact h
          all_goals
            clear h1 h2
            go_enter Try.func93, Try.ntmps93
            go_wp2_with (first | (go_at_call 104; (with_reducible refine (impl_isLetter.calls _ false _ A1.out).mono ?_); rintro e w' ⟨rfl, ⟨nd, rfl⟩⟩))
            go_ret2
            exact FIN.out _
      · rw [if_neg h1]
        have n1 : (c == 48) = false := beq_eq_false_iff_ne.mpr (fun e => h1 (.inr (.inl e)))
        have n2 : (c == 49) = false := beq_eq_false_iff_ne.mpr (fun e => h1 (.inr (.inr e)))
        have A1 : Aside0 (impl_isLetter.f c = some false) := ⟨by
          unfold impl_isLetter.f
          by_cases h3 : c ≥ 97
          · rw [if_pos h3, decide_eq_false (fun h4 => h1 (.inl ⟨by omega, h4⟩))]
          · rw [if_neg h3]⟩
        have h48 := h1
        clear h1
        have C1n : rp S k (i + 1) = none → Aside0 (∀ W, Calls Try.prog 93 #[.string t] W fun e W' => e = .returned (.tuple #[.pointer none, .string ⟨#[]⟩]) ∧ Below W.heap.size W W') := fun hq => ⟨fun W => by have h := IH.out W; rw [hq] at h; exact h⟩
        have C1s : ∀ T j, rp S k (i + 1) = some (T, j) → Aside0 (∀ W, Calls Try.prog 93 #[.string t] W fun e W' => ∃ b, e = .returned (.tuple #[.pointer (some ⟨b, 0, none⟩), .string (S.extract j S.size)]) ∧ impl_readPart.Lies W.heap.size W' T (.pointer (some ⟨b, 0, none⟩)) ∧ Below W.heap.size W W') := fun T j hq => ⟨fun W => (IH.out W).mono (by
          rw [hq]; rintro e W' ⟨⟨v, he, hl⟩, hb⟩
          obtain ⟨b, rfl⟩ := hl.fine (rp_some hq).1
          exact ⟨b, he, hl, hb⟩)⟩
        have C2n : ∀ j, i < j → j ≤ S.size → rp S k j = none → Aside0 (∀ W, Calls Try.prog 93 #[.string (S.extract j S.size)] W fun e W' => e = .returned (.tuple #[.pointer none, .string ⟨#[]⟩]) ∧ Below W.heap.size W W') := fun j h1 h2 hq => ⟨fun W => by have h := IH2.out j W h1 h2; rw [hq] at h; exact h⟩
        have C2s : ∀ j, i < j → j ≤ S.size → ∀ T m, rp S k j = some (T, m) → Aside0 (∀ W, Calls Try.prog 93 #[.string (S.extract j S.size)] W fun e W' => ∃ b, e = .returned (.tuple #[.pointer (some ⟨b, 0, none⟩), .string (S.extract m S.size)]) ∧ impl_readPart.Lies W.heap.size W' T (.pointer (some ⟨b, 0, none⟩)) ∧ Below W.heap.size W W') := fun j h1 h2 T m hq => ⟨fun W => (IH2.out j W h1 h2).mono (by
          rw [hq]; rintro e W' ⟨⟨v, he, hl⟩, hb⟩
          obtain ⟨b, rfl⟩ := hl.fine (rp_some hq).1
          exact ⟨b, he, hl, hb⟩)⟩
        clear IH IH2
        by_cases h2 : c = 33
        · rw [if_pos h2]
          subst h2
          cases hq : rp S k (i + 1) with
          | none =>
            have C1 := C1n hq
            rw [Option.bind_none]
            clear C1n C1s C2n C2s hq h48
            go_enter Try.func93, Try.ntmps93
            go_wp2_with (first | (go_at_call 104; (with_reducible refine (impl_isLetter.calls _ false _ A1.out).mono ?_); rintro e w' ⟨rfl, ⟨nd, rfl⟩⟩) | (go_at_call 93; (with_reducible refine (C1.out _).mono ?_); rintro e w1 ⟨rfl, hb1⟩; have RB := Aside0.mk (blk_below (HR nd).out hb1); have BB := Aside0.mk ((HB nd).out.trans (hb1.mono (HB nd).out.size)); clear hb1; have r0 : w1.cell? ⟨w.heap.size, 0, none⟩ = some (.int .u8 33) := blk_cell RB.out 0; have r1 : w1.cell? ⟨w.heap.size, 1, none⟩ = some (.pointer none) := blk_cell RB.out 1; have r2 : w1.cell? ⟨w.heap.size, 2, none⟩ = some (.pointer none) := blk_cell RB.out 2; have z1 := blk_frozen RB.out 1; have z2 := blk_frozen RB.out 2))
            go_ret2
            exact ⟨rfl, BB.out.setCell (p := ⟨w.heap.size, 1, none⟩) (Nat.le_refl _) _⟩
          | some p =>
            obtain ⟨T, j⟩ := p
            have C1 := C1s T j hq
            rw [Option.bind_some]
            obtain ⟨t2, ht2⟩ : ∃ t2, t2 = S.extract j S.size := ⟨_, rfl⟩
            rw [← ht2] at C1
            have HT2 := Aside0.mk ht2
            clear ht2
            clear C1n C1s C2n C2s hq h48
            go_enter Try.func93, Try.ntmps93
            go_wp2_with (first | (go_at_call 104; (with_reducible refine (impl_isLetter.calls _ false _ A1.out).mono ?_); rintro e w' ⟨rfl, ⟨nd, rfl⟩⟩) | (go_at_call 93; (with_reducible refine (C1.out _).mono ?_); rintro e w1 ⟨b1, rfl, hl1, hb1⟩; have L1 : Aside0 (impl_readPart.Lies (w.heap.size + 1) w1 T (.pointer (some ⟨b1, 0, none⟩))) := ⟨by rw [(HZ nd).out] at hl1; exact hl1⟩; have RB := Aside0.mk (blk_below (HR nd).out hb1); have BB := Aside0.mk ((HB nd).out.trans (hb1.mono (HB nd).out.size)); clear hb1 hl1; have r0 : w1.cell? ⟨w.heap.size, 0, none⟩ = some (.int .u8 33) := blk_cell RB.out 0; have r1 : w1.cell? ⟨w.heap.size, 1, none⟩ = some (.pointer none) := blk_cell RB.out 1; have r2 : w1.cell? ⟨w.heap.size, 2, none⟩ = some (.pointer none) := blk_cell RB.out 2; have z1 := blk_frozen RB.out 1; have z2 := blk_frozen RB.out 2))
            go_ret2
            have RC : (w1.setCell ⟨w.heap.size, 1, none⟩ (.pointer (some ⟨b1, 0, none⟩))).heap[w.heap.size]? = some (.cells #[.int .u8 33, .pointer (some ⟨b1, 0, none⟩), .pointer none] 87 (0, 0)) := by simpa using blk_set RB.out 1 (.pointer (some ⟨b1, 0, none⟩))
            refine ⟨⟨.pointer (some ⟨w.heap.size, 0, none⟩), (by rw [← HT2.out]; try rfl), ⟨w.heap.size, _, _, Nat.le_refl _, rfl, blk_cell RC 0, blk_cell RC 1, blk_cell RC 2, ?_, rfl⟩⟩, BB.out.setCell (p := ⟨w.heap.size, 1, none⟩) (Nat.le_refl _) _⟩
            exact (L1.out.far (g := w.heap.size) (by omega) 1 _).mono (by omega)
        · rw [if_neg h2]
          have n3 : (c == 33) = false := beq_eq_false_iff_ne.mpr h2
          by_cases h3 : c = 38 ∨ c = 124 ∨ c = 94
          · rw [if_pos h3]
            have two : ∀ r, (∀ p, rp S k (i + 1) = some p → r = (rp S k p.2).bind fun q => some (Sh.node c p.1 q.1, q.2)) → (rp S k (i + 1) = none → r = none) → Calls Try.prog 93 #[.string s] w (impl_readPart.Out S w r) := by
              intro r hr1 hr2
              cases hq : rp S k (i + 1) with
              | none =>
                have C1 := C1n hq
                rw [hr2 hq]
                clear C1n C1s C2n C2s hq h48 hr1 hr2 h2
                rcases h3 with rfl | rfl | rfl
                all_goals
                  clear n1 n2 n3
                  go_enter Try.func93, Try.ntmps93
                  go_wp2_with (first | (go_at_call 104; (with_reducible refine (impl_isLetter.calls _ false _ A1.out).mono ?_); rintro e w' ⟨rfl, ⟨nd, rfl⟩⟩) | (go_at_call 93; (with_reducible refine (C1.out _).mono ?_); rintro e w1 ⟨rfl, hb1⟩; have RB := Aside0.mk (blk_below (HR nd).out hb1); have BB := Aside0.mk ((HB nd).out.trans (hb1.mono (HB nd).out.size)); clear hb1; have r0 : w1.cell? ⟨w.heap.size, 0, none⟩ = some (.int .u8 _) := blk_cell RB.out 0; have r1 : w1.cell? ⟨w.heap.size, 1, none⟩ = some (.pointer none) := blk_cell RB.out 1; have r2 : w1.cell? ⟨w.heap.size, 2, none⟩ = some (.pointer none) := blk_cell RB.out 2; have z1 := blk_frozen RB.out 1; have z2 := blk_frozen RB.out 2))
                  go_ret2
                  exact ⟨rfl, BB.out.setCell (p := ⟨w.heap.size, 1, none⟩) (Nat.le_refl _) _⟩
              | some p =>
                obtain ⟨T, j⟩ := p
                obtain ⟨f1, f2, f3, f4⟩ := rp_some hq
                have C1 := C1s T j hq
                rw [hr1 _ hq]
                simp only []
                cases hq2 : rp S k j with
                | none =>
                  have C2 := C2n j (by omega) f3 hq2
                  rw [Option.bind_none]
                  obtain ⟨t2, ht2⟩ : ∃ t2, t2 = S.extract j S.size := ⟨_, rfl⟩
                  rw [← ht2] at C1 C2
                  clear C1n C1s C2n C2s hq hq2 h48 hr1 hr2 h2 f1 f2 f3 f4 ht2
                  rcases h3 with rfl | rfl | rfl
                  all_goals
                    clear n1 n2 n3
                    go_enter Try.func93, Try.ntmps93
                    go_wp2_with (first | (go_at_call 104; (with_reducible refine (impl_isLetter.calls _ false _ A1.out).mono ?_); rintro e w' ⟨rfl, ⟨nd, rfl⟩⟩) | (go_at_call 93; (with_reducible refine (C1.out _).mono ?_); rintro e w1 ⟨b1, rfl, hl1, hb1⟩; have L1 : Aside0 (impl_readPart.Lies (w.heap.size + 1) w1 T (.pointer (some ⟨b1, 0, none⟩))) := ⟨by rw [(HZ nd).out] at hl1; exact hl1⟩; have RB := Aside0.mk (blk_below (HR nd).out hb1); have BB := Aside0.mk ((HB nd).out.trans (hb1.mono (HB nd).out.size)); clear hb1 hl1; have r0 : w1.cell? ⟨w.heap.size, 0, none⟩ = some (.int .u8 _) := blk_cell RB.out 0; have r1 : w1.cell? ⟨w.heap.size, 1, none⟩ = some (.pointer none) := blk_cell RB.out 1; have r2 : w1.cell? ⟨w.heap.size, 2, none⟩ = some (.pointer none) := blk_cell RB.out 2; have z1 := blk_frozen RB.out 1; have z2 := blk_frozen RB.out 2) | (go_at_call 93; (with_reducible refine (C2.out _).mono ?_); rintro e w2 ⟨rfl, hb2⟩; have RC : Aside0 ((w1.setCell ⟨w.heap.size, 1, none⟩ (.pointer (some ⟨b1, 0, none⟩))).heap[w.heap.size]? = some (.cells #[.int .u8 _, .pointer (some ⟨b1, 0, none⟩), .pointer none] 87 (0, 0))) := ⟨by simpa using blk_set RB.out 1 (.pointer (some ⟨b1, 0, none⟩))⟩; have BC := Aside0.mk (BB.out.setCell (p := ⟨w.heap.size, 1, none⟩) (Nat.le_refl _) (.pointer (some ⟨b1, 0, none⟩))); have RD := Aside0.mk (blk_below RC.out hb2); have BD := Aside0.mk (BC.out.trans (hb2.mono BC.out.size)); have L2 := Aside0.mk (((L1.out.far (g := w.heap.size) (by omega) 1 (.pointer (some ⟨b1, 0, none⟩)))).below hb2); clear hb2; have s0 : w2.cell? ⟨w.heap.size, 0, none⟩ = some (.int .u8 _) := blk_cell RD.out 0; have s1 : w2.cell? ⟨w.heap.size, 1, none⟩ = some (.pointer (some ⟨b1, 0, none⟩)) := blk_cell RD.out 1; have s2 : w2.cell? ⟨w.heap.size, 2, none⟩ = some (.pointer none) := blk_cell RD.out 2; have y1 := blk_frozen RD.out 1; have y2 := blk_frozen RD.out 2; clear r0 r1 r2 z1 z2))
                    go_ret2
                    exact ⟨rfl, BD.out.setCell (p := ⟨w.heap.size, 2, none⟩) (Nat.le_refl _) _⟩
                | some q =>
                  obtain ⟨T2, m⟩ := q
                  have C2 := C2s j (by omega) f3 T2 m hq2
                  rw [Option.bind_some]
                  obtain ⟨t2, ht2⟩ : ∃ t2, t2 = S.extract j S.size := ⟨_, rfl⟩
                  rw [← ht2] at C1 C2
                  obtain ⟨t3, ht3⟩ : ∃ t3, t3 = S.extract m S.size := ⟨_, rfl⟩
                  rw [← ht3] at C2
                  have HT3 := Aside0.mk ht3
                  clear C1n C1s C2n C2s hq hq2 h48 hr1 hr2 h2 f1 f2 f3 f4 ht2 ht3
                  rcases h3 with rfl | rfl | rfl
                  all_goals
                    clear n1 n2 n3
                    go_enter Try.func93, Try.ntmps93
                    go_wp2_with (first | (go_at_call 104; (with_reducible refine (impl_isLetter.calls _ false _ A1.out).mono ?_); rintro e w' ⟨rfl, ⟨nd, rfl⟩⟩) | (go_at_call 93; (with_reducible refine (C1.out _).mono ?_); rintro e w1 ⟨b1, rfl, hl1, hb1⟩; have L1 : Aside0 (impl_readPart.Lies (w.heap.size + 1) w1 T (.pointer (some ⟨b1, 0, none⟩))) := ⟨by rw [(HZ nd).out] at hl1; exact hl1⟩; have RB := Aside0.mk (blk_below (HR nd).out hb1); have BB := Aside0.mk ((HB nd).out.trans (hb1.mono (HB nd).out.size)); clear hb1 hl1; have r0 : w1.cell? ⟨w.heap.size, 0, none⟩ = some (.int .u8 _) := blk_cell RB.out 0; have r1 : w1.cell? ⟨w.heap.size, 1, none⟩ = some (.pointer none) := blk_cell RB.out 1; have r2 : w1.cell? ⟨w.heap.size, 2, none⟩ = some (.pointer none) := blk_cell RB.out 2; have z1 := blk_frozen RB.out 1; have z2 := blk_frozen RB.out 2) | (go_at_call 93; (with_reducible refine (C2.out _).mono ?_); rintro e w2 ⟨b2, rfl, hl2, hb2⟩; have RC : Aside0 ((w1.setCell ⟨w.heap.size, 1, none⟩ (.pointer (some ⟨b1, 0, none⟩))).heap[w.heap.size]? = some (.cells #[.int .u8 _, .pointer (some ⟨b1, 0, none⟩), .pointer none] 87 (0, 0))) := ⟨by simpa using blk_set RB.out 1 (.pointer (some ⟨b1, 0, none⟩))⟩; have BC := Aside0.mk (BB.out.setCell (p := ⟨w.heap.size, 1, none⟩) (Nat.le_refl _) (.pointer (some ⟨b1, 0, none⟩))); have RD := Aside0.mk (blk_below RC.out hb2); have BD := Aside0.mk (BC.out.trans (hb2.mono BC.out.size)); have L2 := Aside0.mk (((L1.out.far (g := w.heap.size) (by omega) 1 (.pointer (some ⟨b1, 0, none⟩)))).below hb2); have L3 : Aside0 (impl_readPart.Lies (w.heap.size + 1) w2 T2 (.pointer (some ⟨b2, 0, none⟩))) := ⟨hl2.mono (by have h := blk_lt RC.out; omega)⟩; clear hb2 hl2; have s0 : w2.cell? ⟨w.heap.size, 0, none⟩ = some (.int .u8 _) := blk_cell RD.out 0; have s1 : w2.cell? ⟨w.heap.size, 1, none⟩ = some (.pointer (some ⟨b1, 0, none⟩)) := blk_cell RD.out 1; have s2 : w2.cell? ⟨w.heap.size, 2, none⟩ = some (.pointer none) := blk_cell RD.out 2; have y1 := blk_frozen RD.out 1; have y2 := blk_frozen RD.out 2; clear r0 r1 r2 z1 z2))
                    go_ret2
                    have RE := blk_set RD.out 2 (.pointer (some ⟨b2, 0, none⟩))
                    refine ⟨⟨.pointer (some ⟨w.heap.size, 0, none⟩), (by rw [← HT3.out]; try rfl), ⟨w.heap.size, .pointer (some ⟨b1, 0, none⟩), .pointer (some ⟨b2, 0, none⟩), Nat.le_refl _, rfl, by simpa using blk_cell RE 0, by simpa using blk_cell RE 1, by simpa using blk_cell RE 2, ?_, ?_⟩⟩, BD.out.setCell (p := ⟨w.heap.size, 2, none⟩) (Nat.le_refl _) _⟩
                    · exact (L2.out.far (g := w.heap.size) (by omega) 2 _).mono (by omega)
                    · exact (L3.out.far (g := w.heap.size) (by omega) 2 _).mono (by omega)
            cases hq : rp S k (i + 1) with
            | none => exact two _ (fun p hp => by rw [hq] at hp; cases hp) (fun _ => rfl)
            | some p => exact two _ (fun p' hp => by rw [hq] at hp; cases hp; rfl) (fun h => by rw [hq] at h; cases h)
          · rw [if_neg h3]
            have n4 : (c == 38) = false := beq_eq_false_iff_ne.mpr (fun e => h3 (.inl e))
            have n5 : (c == 124) = false := beq_eq_false_iff_ne.mpr (fun e => h3 (.inr (.inl e)))
            have n6 : (c == 94) = false := beq_eq_false_iff_ne.mpr (fun e => h3 (.inr (.inr e)))
            clear C1n C1s C2n C2s h48 h2 h3
            go_enter Try.func93, Try.ntmps93
            go_wp2_with (first | (go_at_call 104; (with_reducible refine (impl_isLetter.calls _ false _ A1.out).mono ?_); rintro e w' ⟨rfl, ⟨nd, rfl⟩⟩))
            go_ret2
            exact ⟨rfl, (HB _).out⟩


end Go.Proofs.Ytdgbfpnjnfpjaaa.Print
