/- Functions of the given program as plain Lean functions, with proofs that their calls compute them, or lemmas on these. Laid by a program of this repo for the seat YtmdpjmcleckedaaDoor; Lean checks it. -/
import Derived.Test.YtmdpjmcleckedaaDoorKExactSmallestFormula0
import Derived.Test.YtmdpjmcleckedaaDoorKExactSmallestFormula2
import Derived.Test.YtmdpjmcleckedaaDoorM16
import Derived.Test.YtmdpjmcleckedaaDoorM17
import Derived.Deep.RegionLaw
import Derived.Deep.RegionHeld3
import Derived.BigRegion
import Derived.BigQuiet
import Derived.Deep.AppendLies
namespace Go.Proofs.YtmdpjmcleckedaaDoor.Print
open Go.RowKit Go.Proofs.YtmdpjmcleckedaaDoorW.PrintWords Go.Proofs.YtmdpjmcleckedaaDoorW.PrintLast Go.Proofs.YtmdpjmcleckedaaDoorW.PrintMore
attribute [local go_sem] max2_int min2_int max_two min_two max_three min_three max_four min_four   -- for this text's walks alone
set_option linter.unusedVariables false
set_option linter.unusedSimpArgs false

--OWNPART
/-! ### spec_l22Sizes: function 9 -/
--IMPORT M16
--IMPORT M17
--IMPORT Derived.Deep.RegionLaw
--IMPORT Derived.Deep.RegionHeld3
--IMPORT Derived.BigRegion
--IMPORT Derived.BigQuiet
--IMPORT Derived.Deep.AppendLies
open Go.Proofs.YtmdpjmcleckedaaDoor.M
def spec_l22Sizes.f (a0 : Int) : Option (List Int) := if 0 ≤ a0 ∧ a0 ≤ 3 then some (szL a0.toNat) else none
theorem spec_l22Sizes.full {n N : Nat} (hn : n ≤ 3) (hN : N = szN n) : spec_l2Full.f (n : Int) = some ((N : Int) - 1) := by
  unfold spec_l2Full.f
  rw [if_pos (Int.natCast_nonneg n), full_word (by omega), hN]; rfl
theorem spec_l22Sizes.var {n i : Nat} (hn : n ≤ 3) (hi : i < n) : spec_l2Variable.f 10 (n : Int) (i : Int) = some ((szVar n i : Nat) : Int) := by
  have h : allB 4 (fun n => allB n fun i => decide (spec_l2Variable.f 10 (n : Int) (i : Int) = some ((szVar n i : Nat) : Int))) = true := by decide +kernel
  exact of_decide_eq_true (allB_of (allB4 h hn) i hi)
/-- what lies in memory: the sizes so far and the words by sizes -/
def spec_l22Sizes.Mem (w : World) (go co ro cb : Nat) (out : List Int) (rows : List (List Int)) (W : World) : Prop :=
  Kd.R (Kd.int .i64) 3 W w.heap.size (fun k => k = go) (.slice (some ⟨go, 0, none⟩) out.length co) out ∧
  Kd.S (Kd.slice 3 (Kd.int .i64)) 31 W w.heap.size (fun k => k ≠ go) (.slice (some ⟨ro, 0, none⟩) rows.length cb) rows ∧
  Below w.heap.size w W
theorem spec_l22Sizes.empty (W : World) (base : Nat) (hb : base ≤ W.heap.size) : Kd.R (Kd.int .i64) 3 (W.alloc (.cells #[] 3)) base (fun k => k = W.heap.size) (.slice (some ⟨W.heap.size, 0, none⟩) 0 0) [] := by
  have h := Kd.R_of_own (h1 := fun _ => rfl) (ok := fun k => k = W.heap.size) (own_lit W base 3 .i64 [] hb (by simp)) (fun k hk => by simpa [Value.ownBlock] using hk.symm)
  exact h
theorem spec_l22Sizes.start {w w4 : World} {gq co N : Nat} (hR : (Kd.int .i64).R 3 w4 w.heap.size (fun _ => True) (.slice (some ⟨gq, 0, none⟩) N co) (List.replicate N 0)) (hB : Below w.heap.size w w4) (hg : w.heap.size ≤ gq ∧ gq < w4.heap.size) :
    spec_l22Sizes.Mem w gq co (w4.heap.size + 1 + 1) 2 (List.replicate N 0) [[], []] (((w4.alloc (.cells #[] 3)).alloc (.cells #[] 3)).alloc (.cells #[.slice (some ⟨w4.heap.size, 0, none⟩) 0 0, .slice (some ⟨w4.heap.size + 1, 0, none⟩) 0 0] 31)) := by
  have z := hB.size
  refine ⟨?_, ?_, below_alloc (below_alloc (below_alloc hB _) _) _⟩
  · rw [List.length_replicate]
    exact Kd.R_alloc (Kd.R_alloc (Kd.R_alloc (Kd.R_mono (Kd.R_tight rfl hR) (fun k hk => by simpa [Value.ownBlock] using hk)) _) _) _
  · have h0 := Kd.R_alloc (spec_l22Sizes.empty w4 w.heap.size z) (.cells #[] 3)
    have h1 := spec_l22Sizes.empty (w4.alloc (.cells #[] 3)) w.heap.size (by simp; omega)
    have e1 : (w4.alloc (.cells #[] 3)).heap.size = w4.heap.size + 1 := by simp
    rw [e1] at h1
    have h2 := rows_two (ts := 31) (ok := fun k => k ≠ gq) h0 h1 (fun k hk hk2 => by omega) (fun k hk => by simp; omega) (fun k hk => by simp; omega) (by simp; omega) (by simp; omega)
    have e2 : ((w4.alloc (.cells #[] 3)).alloc (.cells #[] 3)).heap.size = w4.heap.size + 1 + 1 := by simp
    rw [e2] at h2
    exact h2
/-- the same within a round: the new words' row (okf: its blocks) beside -/
def spec_l22Sizes.Mem3 (w : World) (go co ro cb F : Nat) (okf : Nat → Prop) (out : List Int) (rows : List (List Int)) (v9 : Value) (fr : List Int) (W : World) : Prop :=
  Kd.R (Kd.int .i64) 3 W w.heap.size (fun k => k = go) (.slice (some ⟨go, 0, none⟩) out.length co) out ∧
  Kd.S (Kd.slice 3 (Kd.int .i64)) 31 W w.heap.size (fun k => k ≠ go ∧ k < F) (.slice (some ⟨ro, 0, none⟩) rows.length cb) rows ∧
  Kd.R (Kd.int .i64) 3 W w.heap.size okf v9 fr ∧ (∀ k, okf k → F ≤ k) ∧ (∀ k, W.heap.size ≤ k → okf k) ∧ go < F ∧ F ≤ W.heap.size ∧ Below w.heap.size w W
theorem spec_l22Sizes.Mem3.below {w : World} {go co ro cb F : Nat} {okf : Nat → Prop} {out : List Int} {rows : List (List Int)} {v9 : Value} {fr : List Int} {W W' : World} (h : spec_l22Sizes.Mem3 w go co ro cb F okf out rows v9 fr W) (hb : Below W.heap.size W W') : spec_l22Sizes.Mem3 w go co ro cb F okf out rows v9 fr W' :=
  ⟨Kd.R_below h.1 hb, Kd.S_below h.2.1 hb, Kd.R_below h.2.2.1 hb, h.2.2.2.1, fun k hk => h.2.2.2.2.1 k (Nat.le_trans hb.size hk), h.2.2.2.2.2.1, Nat.le_trans h.2.2.2.2.2.2.1 hb.size, h.2.2.2.2.2.2.2.trans (hb.mono h.2.2.2.2.2.2.2.size)⟩
theorem spec_l22Sizes.Mem3.loose {w : World} {go co ro cb F : Nat} {okf : Nat → Prop} {out : List Int} {rows : List (List Int)} {v9 : Value} {fr : List Int} {W : World} (h : spec_l22Sizes.Mem3 w go co ro cb F okf out rows v9 fr W) : spec_l22Sizes.Mem3 w go co ro cb F (fun k => F ≤ k) out rows v9 fr W :=
  ⟨h.1, h.2.1, Kd.R_mono h.2.2.1 h.2.2.2.1, fun _ hk => hk, fun k hk => Nat.le_trans h.2.2.2.2.2.2.1 hk, h.2.2.2.2.2.1, h.2.2.2.2.2.2.1, h.2.2.2.2.2.2.2⟩
/-- the new words' row at a round's start -/
theorem spec_l22Sizes.Mem3.start {w : World} {go co ro cb : Nat} {out : List Int} {rows : List (List Int)} {W : World} (h : spec_l22Sizes.Mem w go co ro cb out rows W) (hg : w.heap.size ≤ go) :
    spec_l22Sizes.Mem3 w go co ro cb W.heap.size (fun k => W.heap.size ≤ k) out rows (.slice (some ⟨W.heap.size, 0, none⟩) 0 0) [] (W.alloc (.cells #[] 3)) := by
  obtain ⟨h1, h2, h3⟩ := h
  have hl := Kd.R_lt h1 go (by simp [Value.ownBlock])
  refine ⟨Kd.R_alloc h1 _, Kd.S_alloc (Kd.S_mono (Kd.S_bound h2) (fun k hk => ⟨hk.1, hk.2.2.1⟩)) _, Kd.R_mono (spec_l22Sizes.empty W w.heap.size h3.size) (fun k hk => by rw [hk]; exact Nat.le_refl _), fun _ hk => hk, fun k hk => ?_, hl, by simp, below_alloc h3 _⟩
  simp at hk; omega
/-- a word is told -/
theorem spec_l22Sizes.Mem3.put {w : World} {go co ro cb F : Nat} {okf : Nat → Prop} {out : List Int} {rows : List (List Int)} {v9 : Value} {fr : List Int} {W : World} (h : spec_l22Sizes.Mem3 w go co ro cb F okf out rows v9 fr W) (hg : w.heap.size ≤ go) (x : Nat) (s : Int) :
    spec_l22Sizes.Mem3 w go co ro cb F okf (out.set x s) rows v9 fr (W.setCell ⟨go, x, none⟩ (.int .i64 s)) := by
  obtain ⟨h1, h2, h3, h4, h5, h6, h7, h8⟩ := h
  have hz : (W.setCell ⟨go, x, none⟩ (.int .i64 s)).heap.size = W.heap.size := by simp [World.setCell]
  refine ⟨?_, Kd.S_far (p := ⟨go, x, none⟩) h2 (fun k hk => hk.1) _, Kd.R_far (p := ⟨go, x, none⟩) h3 (fun k hk => by have := h4 k hk; show k ≠ go; omega) _, h4, by rw [hz]; exact h5, h6, by rw [hz]; exact h7, h8.setCell (p := ⟨go, x, none⟩) hg _⟩
  rw [List.length_set]
  have := Kd.R_putn h1 (x : Int) s
  rw [Int.toNat_natCast] at this
  exact this
/-- a word is appended to the new ones -/
theorem spec_l22Sizes.Mem3.grow {w : World} {go co ro cb F : Nat} {okf : Nat → Prop} {out : List Int} {rows : List (List Int)} {v9 v8 : Value} {fr fr8 : List Int} {W w8 : World} (h : spec_l22Sizes.Mem3 w go co ro cb F okf out rows v9 fr W) (hr : Kd.R (Kd.int .i64) 3 w8 w.heap.size okf v8 fr8) (hb : Below w.heap.size w w8) (hg : W.grownBy w8 v9.ownBlock) :
    spec_l22Sizes.Mem3 w go co ro cb F okf out rows v8 fr8 w8 := by
  obtain ⟨h1, h2, h3, h4, h5, h6, h7, h8⟩ := h
  refine ⟨Kd.R_grown h1 hg (fun k hk e => ?_), Kd.S_grown h2 hg (fun k hk e => ?_), hr, h4, fun k hk => h5 k (Nat.le_trans hg.size hk), h6, Nat.le_trans h7 hg.size, hb⟩
  · have := h4 k (h3.1 k e.symm); omega
  · have := h4 k (h3.1 k e.symm); have := hk.2; omega
theorem spec_l22Sizes.aK {w : World} {go co ro cb F : Nat} {out : List Int} {rows : List (List Int)} {v9 : Value} {fr : List Int} {W : World} (h : spec_l22Sizes.Mem3 w go co ro cb F (fun k => F ≤ k) out rows v9 fr W) : ∀ k, F ≤ k → k ≠ go ∧ some k ≠ (Value.slice (some ⟨ro, 0, none⟩) rows.length cb).ownBlock := by
  intro k hk
  have h1 := h.2.1.elim (fun f h => h.1 ro (by simp [Value.ownBlock]))
  have h2 := h.2.2.2.2.2.1
  refine ⟨by omega, fun e => ?_⟩
  have : k = ro := by simpa [Value.ownBlock] using e
  omega
theorem spec_l22Sizes.aF {w : World} {go co ro cb F : Nat} {out : List Int} {rows : List (List Int)} {v9 : Value} {fr : List Int} {W : World} (h : spec_l22Sizes.Mem3 w go co ro cb F (fun k => F ≤ k) out rows v9 fr W) : ∀ k, W.heap.size ≤ k → k ≠ go := by
  intro k hk
  have h1 := Kd.R_lt h.1 go (by simp [Value.ownBlock])
  omega
theorem spec_l22Sizes.next {w : World} {go co ro cb F : Nat} {out : List Int} {rows : List (List Int)} {v9 v8 : Value} {fr : List Int} {W w8 : World} (h : spec_l22Sizes.Mem3 w go co ro cb F (fun k => F ≤ k) out rows v9 fr W) (hs : Kd.S (Kd.slice 3 (Kd.int .i64)) 31 w8 w.heap.size (fun k => k ≠ go) v8 (rows ++ [fr])) (hb : Below w.heap.size w w8) (hg : W.grownBy w8 (Value.slice (some ⟨ro, 0, none⟩) rows.length cb).ownBlock) :
    ∀ {r c}, v8 = .slice (some ⟨r, 0, none⟩) (rows ++ [fr]).length c → spec_l22Sizes.Mem w go co r c out (rows ++ [fr]) w8 := by
  rintro r c rfl
  refine ⟨Kd.R_grown h.1 hg (fun k hk e => ?_), hs, hb⟩
  have h1 := h.2.1.elim (fun f h => h.1 ro (by simp [Value.ownBlock]))
  have : k = ro := by simpa [Value.ownBlock] using e
  exact h1.1 (by rw [← this]; exact hk)
/-- the pairs that a round has taken -/
def spec_l22Sizes.Pd (rows : List (List Int)) (s a i j : Nat) (f g : Int) : Prop :=
  (∃ a', 1 ≤ a' ∧ a' < a ∧ f ∈ rows.getD a' [] ∧ g ∈ rows.getD (s - a') []) ∨ (f ∈ (rows.getD a []).take i ∧ g ∈ rows.getD (s - a) []) ∨ ((rows.getD a [])[i]? = some f ∧ g ∈ (rows.getD (s - a) []).take j)
theorem spec_l22Sizes.Pd_start {rows : List (List Int)} {s a : Nat} {f g : Int} (h : spec_l22Sizes.Pd rows s a 0 0 f g) : ∃ a', 1 ≤ a' ∧ a' < a ∧ f ∈ rows.getD a' [] ∧ g ∈ rows.getD (s - a') [] := by
  rcases h with h | ⟨h, _⟩ | ⟨_, h⟩
  · exact h
  · simp at h
  · simp at h
theorem spec_l22Sizes.mem_take {l : List Int} {j : Nat} {g : Int} (h : g ∈ l.take (j + 1)) : g ∈ l.take j ∨ l[j]? = some g := by
  rw [List.take_add_one, List.mem_append] at h
  refine h.imp id (fun h => ?_)
  cases hq : l[j]? with
  | none => rw [hq] at h; cases h
  | some q => rw [hq] at h; simp at h; rw [h]
theorem spec_l22Sizes.Pd_j {rows : List (List Int)} {s a i j : Nat} {f g : Int} (h : spec_l22Sizes.Pd rows s a i (j + 1) f g) : spec_l22Sizes.Pd rows s a i j f g ∨ ((rows.getD a [])[i]? = some f ∧ (rows.getD (s - a) [])[j]? = some g) := by
  rcases h with h | h | ⟨h1, h2⟩
  · exact .inl (.inl h)
  · exact .inl (.inr (.inl h))
  · rcases spec_l22Sizes.mem_take h2 with h3 | h3
    · exact .inl (.inr (.inr ⟨h1, h3⟩))
    · exact .inr ⟨h1, h3⟩
theorem spec_l22Sizes.Pd_i {rows : List (List Int)} {s a i : Nat} {f g : Int} (h : spec_l22Sizes.Pd rows s a (i + 1) 0 f g) : spec_l22Sizes.Pd rows s a i (rows.getD (s - a) []).length f g := by
  rcases h with h | ⟨h1, h2⟩ | ⟨_, h2⟩
  · exact .inl h
  · rcases spec_l22Sizes.mem_take h1 with h3 | h3
    · exact .inr (.inl ⟨h3, h2⟩)
    · exact .inr (.inr ⟨h3, by rw [List.take_length]; exact h2⟩)
  · simp at h2
theorem spec_l22Sizes.Pd_a {rows : List (List Int)} {s a a' : Nat} {f g : Int} (h1 : 1 ≤ a') (h2 : a' < a + 1) (h3 : f ∈ rows.getD a' []) (h4 : g ∈ rows.getD (s - a') []) : spec_l22Sizes.Pd rows s a (rows.getD a []).length 0 f g := by
  by_cases e : a' = a
  · subst e; exact .inr (.inl ⟨by rw [List.take_length]; exact h3, h4⟩)
  · exact .inl ⟨a', h1, by omega, h3, h4⟩
theorem spec_l22Sizes.rd_get {l : List Int} {i : Nat} (h : i < l.length) : l[i]? = some (rd l (i : Int)) := by
  simp [rd, List.getD_eq_getElem?_getD, h]
/-- a new block beside the new words' row -/
theorem spec_l22Sizes.Mem3.beside {w : World} {go co ro cb F : Nat} {out : List Int} {rows : List (List Int)} {v9 : Value} {fr : List Int} {W : World} (h : spec_l22Sizes.Mem3 w go co ro cb F (fun k => F ≤ k) out rows v9 fr W) (o : Obj) : spec_l22Sizes.Mem3 w go co ro cb F (fun k => F ≤ k ∧ k ≠ W.heap.size) out rows v9 fr (W.alloc o).drew := by
  obtain ⟨h1, h2, h3, h4, h5, h6, h7, h8⟩ := h
  refine ⟨Kd.R_drew (Kd.R_alloc h1 _), Kd.S_drew (Kd.S_alloc h2 _), Kd.R_drew (Kd.R_alloc (Kd.R_mono (Kd.R_bound h3) (fun k hk => ⟨hk.1, by have := hk.2.2.1; omega⟩)) _), fun k hk => hk.1, fun k hk => ?_, h6, ?_, below_drew (below_alloc h8 _)⟩
  · have : W.heap.size + 1 ≤ k := by simpa using hk
    exact ⟨by omega, by omega⟩
  · show F ≤ (W.alloc o).heap.size
    simp; omega
/-- the state behind k of a pair's words -/
def spec_l22Sizes.st (n s : Nat) (o : List Int × List Int) (x0 x1 : Nat) : Nat → List Int × List Int
  | 0 => o
  | 1 => szTake n s 0 o x0
  | _ => szTake n s 0 (szTake n s 0 o x0) x1
set_option maxHeartbeats 8000000 in
set_option maxRecDepth 100000 in
theorem spec_l22Sizes.nat (n : Nat) (hn : n ≤ 3) (w : World) :
    Calls Tryd.prog 9 #[.int .i64 (n : Int)] w fun e w' => ∃ v0_ : Value, e = .returned v0_ ∧ Kd.R (Kd.int .i64) 3 w' w.heap.size (fun _ => True) v0_ (szL n) ∧ Below w.heap.size w w' := by
  obtain ⟨N, hN⟩ : ∃ N, N = szN n := ⟨_, rfl⟩
  have hN2 : 2 ≤ N := by rw [hN]; exact szN_pos
  have hN256 : N ≤ 256 := by
    rw [hN]
    have h8 := Nat.pow_le_pow_right (show 0 < 2 by decide) (show n ≤ 3 by omega)
    have := Nat.pow_le_pow_right (show 0 < 2 by decide) (show 2 ^ n ≤ 8 by simpa using h8)
    simpa [szN] using this
  have CF := Aside0.mk (fun W => spec_l2Full.calls (n : Int) _ W (spec_l22Sizes.full hn hN))
  have HNN := Aside0.mk hN
  clear hN
  go_enter Tryd.func9, Tryd.ntmps9
  go_wp2_with (first | (go_at_call 14; refine (CF.out _).mono ?_; rintro e w' ⟨rfl, ⟨nd, rfl⟩⟩) | ((with_reducible refine gate_dst (N := 18) rfl ?_); refine Kd.R_make (w0 := w) (Kd.int .i64) w.heap.size 3 rfl (N := 18) rfl 31 _ _ rfl (N : Int) (by first | rfl | (simp; done)) (by first | rfl | (simp; done)) Tryd.underlying31 (.int .i64 0) 8 info3 rfl (by decide) (by omega) 0 (ok := fun _ => True) (okp := fun _ => True) rfl (fun _ hk => hk) trivial (by omega) (by omega) (pw_below_drewN (Below.refl _ _) _) (by simp) ?_; intro v4 w4 ho hb hg_ hnew_; rw [Int.toNat_natCast] at ho; obtain ⟨gq, co, hv4, hgb, hgl, _⟩ := Kd.R_form ho (by rw [List.length_replicate]; omega); have hv5 : v4 = .slice (some ⟨gq, 0, none⟩) N co := (by rw [hv4]; simp); subst hv5; clear hv4 hg_ hnew_; have HR4 := Aside0.mk ho; have HB4 := Aside0.mk hb; have HG4 := Aside0.mk (And.intro hgb hgl); clear ho hb hgb hgl))
  have HM := Aside0.mk (spec_l22Sizes.start HR4.out HB4.out HG4.out)
  have HGW := Aside0.mk HG4.out.1
  obtain ⟨W6, hW6⟩ : ∃ W6, W6 = (((w4.alloc (.cells #[] 3)).alloc (.cells #[] 3)).alloc (.cells #[.slice (some ⟨w4.heap.size, 0, none⟩) 0 0, .slice (some ⟨w4.heap.size + 1, 0, none⟩) 0 0] 31)) := ⟨_, rfl⟩
  rw [← hW6] at HM ⊢
  clear hW6 HR4 HB4 HG4
  generalize w4.heap.size + 1 + 1 = r0 at *
  generalize w4.heap.size + 1 = zz1 at *
  generalize w4.heap.size = zz0 at *
  have HZ0 := Aside0.mk (szZero_ok hn)
  rw [← HNN.out] at HZ0
  go_loopg [5] n (fun gg v5 wr => ∃ (i : Nat) (out : List Int), i ≤ n ∧ n - i ≤ gg ∧ v5 = .int .i64 (i : Int) ∧ Aside0 (spec_l22Sizes.Mem w gq co r0 2 out [[], szLets n i] wr) ∧ Aside0 (SzI n 1 0 out (szLets n i)) ∧ Aside0 (szU n 0 out + 2 * i + 2 = szN n) ∧ Aside0 (∀ j, j < i → szIs n 0 out (szVar n j) = false ∧ szIs n 0 out (szN n - 1 - szVar n j) = false))
  case atStart => exact ⟨0, List.replicate N 0, Nat.zero_le _, by omega, rfl, HM, ⟨HZ0.out.1⟩, ⟨by rw [← HNN.out]; exact HZ0.out.2⟩, ⟨fun j hj => by omega⟩⟩
  case round =>
    clear HM HZ0
    obtain ⟨i, out, hi, hg, rfl, HM, HI, HU, HV⟩ := hrel
    by_cases hlt : i < n
    · have hltz : (i : Int) < (n : Int) := by omega
      obtain ⟨v1, v2, v3, v4⟩ := szVar_ok hn hlt
      have CV := Aside0.mk (fun W => spec_l2Variable.calls 10 (n : Int) (i : Int) _ W (spec_l22Sizes.var hn hlt))
      have HPUT := Aside0.mk (szLet_put hn hlt HI.out HU.out HV.out)
      rw [← HNN.out] at v1 HPUT
      have hlets : szLets n (i + 1) = szLets n i ++ [(szVar n i : Int), ((szN n - 1 - szVar n i : Nat) : Int)] := rfl
      have hlen : out.length = N := by rw [HI.out.len, HNN.out]
      rw [← HNN.out] at hlets
      have HLT := Aside0.mk hlets
      obtain ⟨_, _, v5⟩ := szLets_new hn hlt
      rw [← HNN.out] at v5
      have v6 := Ne.symm v5
      clear v2 v3 v4 hlets
      generalize szVar n i = v at *
      obtain ⟨a0, f0⟩ := Kd.R_celln 0 HM.out.1 ((v : Nat) : Int) (by omega) (by omega)
      obtain ⟨a1, f1⟩ := Kd.R_celln 0 HM.out.1 ((N - 1 - v : Nat) : Int) (by omega) (by omega)
      rw [Int.toNat_natCast] at a0 f0 a1 f1
      have t1 : ((N : Int) - 1 - (v : Int)).toNat = N - 1 - v := by omega
      have t2 : (0 : Int) ≤ (N : Int) - 1 - (v : Int) := by omega
      have t3 : (N : Int) - 1 - (v : Int) < (N : Int) := by omega
      have t4 : (v : Int) < (N : Int) := by omega
      have HL := Aside0.mk hlen
      have hM := HM.out
      unfold spec_l22Sizes.Mem at hM
      rw [hlen] at hM
      have HM2 := Aside0.mk hM
      clear hM hlen HM HI HU HV
      generalize rdOf 0 out ((v : Nat) : Int) = y0 at *
      generalize rdOf 0 out ((N - 1 - v : Nat) : Int) = y1 at *
      go_wp2_with (first | (go_at_call 15; refine (CV.out _).mono ?_; rintro e w' ⟨rfl, ⟨nd1, rfl⟩⟩) | (go_at_call 14; refine (CF.out _).mono ?_; rintro e w' ⟨rfl, ⟨nd2, rfl⟩⟩))
      obtain ⟨W9, hW9⟩ : ∃ W9, W9 = ((((wr.drewN nd1).setCell ⟨gq, v, none⟩ (.int .i64 1)).drewN nd2).setCell ⟨gq, N - 1 - v, none⟩ (.int .i64 1)) := ⟨_, rfl⟩
      rw [← hW9]
      obtain ⟨hr9, hs9, hb9⟩ := HM2.out
      have hR9 : (Kd.int .i64).R 3 W9 w.heap.size (fun k => k = gq) (.slice (some ⟨gq, 0, none⟩) N co) ((out.set v 1).set (N - 1 - v) 1) := by
        have h1 := Kd.R_putn (Kd.R_drewN hr9 nd1) ((v : Nat) : Int) 1
        have h2 := Kd.R_putn (Kd.R_drewN h1 nd2) ((N - 1 - v : Nat) : Int) 1
        rw [Int.toNat_natCast, Int.toNat_natCast] at h2
        rw [hW9]; exact h2
      have hS9 : Kd.S (Kd.slice 3 (Kd.int .i64)) 31 W9 w.heap.size (fun k => k ≠ gq) (.slice (some ⟨r0, 0, none⟩) 2 2) [[], szLets n i] := by
        rw [hW9]
        exact Kd.S_far (p := ⟨gq, N - 1 - v, none⟩) (Kd.S_drewN (Kd.S_far (p := ⟨gq, v, none⟩) (Kd.S_drewN hs9 _) (fun k hk => hk) _) _) (fun k hk => hk) _
      have hB9 : Below w.heap.size w W9 := by
        rw [hW9]
        exact (pw_below_drewN ((pw_below_drewN hb9 _).setCell (p := ⟨gq, v, none⟩) HGW.out _) _).setCell (p := ⟨gq, N - 1 - v, none⟩) HGW.out _
      have lgq := Kd.R_lt hR9 gq (by simp [Value.ownBlock])
      have hlen1 : ((szLets n i).length + 2) * 8 ≤ 140737488355328 := by have h1 : (szLets n i).length = 2 * i := szLets_len n i; omega
      obtain ⟨A0, n0, cc0, r1, r2, r3, r4⟩ := rows_push (P := Tryd.prog) (t := 31) (ty := 31) Tryd.underlying31 info3 (fun k hk => by omega) hB9.size hS9 1 (by omega) [(v : Int), ((N - 1 - v : Nat) : Int)] hlen1
      have R4 : Aside0 (∀ W2 : World, Below W9.heap.size W9 W2 → (∀ j, j < 2 → W2.cell? ((⟨W9.heap.size, 0, none⟩ : Addr).add j) = some (.int .i64 ([(v : Int), ((N - 1 - v : Nat) : Int)].getD j 0))) → ∃ (v1 : Value) (w1 : World), (Builtin.append_ #[31, 31] 31 #[.slice A0 n0 cc0, .slice (some ⟨W9.heap.size, 0, none⟩) 2 2]).run Tryd.prog W2 = .ok v1 w1 ∧
          (∃ A1 n1 c1, v1 = .slice A1 n1 c1 ∧ w1.cell? ⟨r0, 1, none⟩ = some (.slice A0 n0 cc0) ∧ w1.frozen? ⟨r0, 1, none⟩ = false ∧ spec_l22Sizes.Mem w gq co r0 2 ((out.set v 1).set (N - 1 - v) 1) [[], szLets n (i + 1)] (w1.setCell ⟨r0, 1, none⟩ (.slice A1 n1 c1)))) := ⟨fun W2 hb hc => by
        obtain ⟨A1, n1, c1, w1, x1, x2, x3, x4, x5⟩ := r4 W2 ⟨W9.heap.size, 0, none⟩ 2 2 hb rfl hc
        refine ⟨_, w1, x1, A1, n1, c1, rfl, x2, x3, ?_⟩
        have hl : ((out.set v 1).set (N - 1 - v) 1).length = N := by simp [HL.out]
        unfold spec_l22Sizes.Mem
        rw [hl, HLT.out]
        refine ⟨?_, x5, (hB9.grown x4 hB9.size (fun k hk => (r3 k hk).2.2)).setCell (p := ⟨r0, 1, none⟩) (Kd.S_base hS9 r0 (by simp [Value.ownBlock])) _⟩
        refine Kd.R_far (p := ⟨r0, 1, none⟩) (Kd.R_grown hR9 x4 (fun k hk e => (r3 k e.symm).1 hk)) (fun k hk => ?_) _
        have := hS9.elim (fun f h => h.1 r0 (by simp [Value.ownBlock]))
        rw [hk]; exact this.symm⟩
      have e8 : (N : Int) - 1 - (v : Int) = ((N - 1 - v : Nat) : Int) := by omega
      clear hr9 hs9 hb9 hR9 hS9 hB9 r3 r4 a0 a1 f0 f1 hW9 lgq hlen1
      have n1 := World.new_ne W9 _ r1
      have r5 : ∀ nd o, ((W9.drewN nd).alloc o).cell? ⟨r0, 1, none⟩ = some (.slice A0 n0 cc0) := fun nd o => pw_cell_below (below_alloc (pw_below_drewN (Below.refl _ W9) nd) o) r1
      have e9 : IntKind.i64.wrap ((N - 1 - v : Nat) : Int) = ((N - 1 - v : Nat) : Int) := by rw [i64_w]; exact w64 (by omega) (by omega)
      go_region_law (first | ((refine step_app_ex (by rfl) _ _ _ (by rfl) _ _ _ (by rfl) (by rfl) (R4.out _ (by repeat (first | exact Below.refl _ _ | apply below_alloc | apply pw_below_drewN | apply below_drew)) (fun j hj => by rcases (show j = 0 ∨ j = 1 by omega) with h | h <;> subst h <;> rw [add_plain] <;> exact blk_cell (blk_new _ _) _)) ?_); rintro v7 w7 ⟨A7, n7, c7, rfl, e7, f7, HM7⟩; have HM7 := Aside0.mk HM7) | (go_simp; go_at_call 14; refine (CF.out _).mono ?_; rintro e w' ⟨rfl, ⟨nd3, rfl⟩⟩))
      all_goals
        go_wp2
        go_roundg (n - (i + 1))
        case measure => omega
        case rel => exact ⟨i + 1, _, by omega, by omega, by push_cast; rfl, HM7, ⟨HPUT.out.1⟩, ⟨by have h := HPUT.out.2.1; rw [← HNN.out]; exact h⟩, ⟨fun j hj => by have h := HPUT.out.2.2 j hj; rw [← HNN.out]; exact h⟩⟩
    · have hin : i = n := by omega
      have hgo : decide ((i : Int) < (n : Int)) = false := decide_eq_false (by omega)
      have hgo2 : decide (i < n) = false := decide_eq_false (by omega)
      have hdone := szLet_done (u := 0) hn (out := out) (fun j hj => HV.out j (by omega))
      have HI2 := Aside0.mk (HI.out.next (Nat.le_refl _) hdone)
      have HR2 := Aside0.mk (SzR.push (u := 0) (by omega) (Nat.le_refl _) (SzR.one n) HI.out hdone)
      have hu : (N : Int) - 2 - 2 * (n : Int) = ((szU n 0 out : Nat) : Int) := by have h := HU.out; rw [← HNN.out] at h; omega
      have HUU := Aside0.mk hu
      have hN3 : (N : Int) - 1 + 1 = (N : Int) := by omega
      clear hdone HI HV hin hlt hi hg hu HU
      go_wp2_with (first | (go_at_call 14; refine (CF.out _).mono ?_; rintro e w' ⟨rfl, ⟨nd2, rfl⟩⟩))
      have HM2 : Aside0 (spec_l22Sizes.Mem w gq co r0 2 out ([[]] ++ [szLets n i]) (wr.drewN nd2)) := ⟨⟨Kd.R_drewN HM.out.1 _, Kd.S_drewN HM.out.2.1 _, pw_below_drewN HM.out.2.2 _⟩⟩
      clear HM hgo hgo2 hN3
      go_loopg [4, 7, 8] 12 (fun gg v4 v7 v8 wr => ∃ (s : Nat) (out : List Int) (rows : List (List Int)) (ro cb : Nat), 2 ≤ s ∧ s ≤ 11 ∧ 12 - s ≤ gg ∧ v4 = .slice (some ⟨ro, 0, none⟩) rows.length cb ∧ v7 = .int .i64 ((szU n 0 out : Nat) : Int) ∧ v8 = .int .i64 (s : Int) ∧ Aside0 (spec_l22Sizes.Mem w gq co ro cb out rows wr) ∧ Aside0 (SzI n s 0 out []) ∧ Aside0 (SzR n s rows))
      case atStart => exact ⟨2, out, [[]] ++ [szLets n i], r0, 2, Nat.le_refl _, by omega, by omega, rfl, by rw [← HUU.out], rfl, HM2, HI2, HR2⟩
      case round =>
        clear HM2 HI2 HR2 HUU
        obtain ⟨s, out, rows, ro, cb, hs2, hs11, hg, rfl, rfl, rfl, HM, HI, HR⟩ := hrel
        by_cases hz : szU n 0 out = 0
        · rw [hz]
          go_wp2
          go_ret
          have hfin : out = szL n := HI.out.full (fun x hx => szcnt_zero hz x hx)
          rw [← hfin]
          have h := HM.out.1
          rw [HI.out.len, ← HNN.out] at h
          exact ⟨_, rfl, Kd.R_mono h (fun _ _ => trivial), HM.out.2.2⟩
        · have hs10 : s ≤ 10 := by
            rcases Nat.lt_or_ge 10 s with h | h
            · exact absurd (szU_none hn HI.out h) hz
            · exact h
          have hu9 : szU n 0 out ≤ 256 := Nat.le_trans (cnt_le _ _) (by rw [← HNN.out]; exact hN256)
          have hpos : (0 : Int) < ((szU n 0 out : Nat) : Int) := by omega
          have HM3 := Aside0.mk (spec_l22Sizes.Mem3.start HM.out HGW.out)
          obtain ⟨U, hU⟩ : ∃ U, U = szU n 0 out := ⟨_, rfl⟩
          have HU0 := Aside0.mk hU
          rw [← hU] at hu9 hpos ⊢
          have HRL := Aside0.mk HR.out.len
          obtain ⟨F, hF⟩ : ∃ F, F = wr.heap.size := ⟨_, rfl⟩
          rw [← hF] at HM3
          have HF := Aside0.mk hF
          have q1 : decide (0 < U) = true := decide_eq_true (by omega)
          have q2 : decide (0 < (U : Int)) = true := decide_eq_true hpos
          have q3 : decide ((U : Int) > 0) = true := decide_eq_true hpos
          have q4 : 0 < U := by omega
          clear hz hU hF HM
          go_wp2
          rw [← HF.out]
          have HI3 := Aside0.mk HI.out
          clear hpos HI HF q1 q2 q3 q4
          go_loopg [7, 9, 10] 12 (fun gg v7 v9 v10 wr => ∃ (a : Nat) (out fr : List Int), 1 ≤ a ∧ a ≤ s ∧ 12 - a ≤ gg ∧ v7 = .int .i64 ((szU n 0 out : Nat) : Int) ∧ v10 = .int .i64 (a : Int) ∧ Aside0 (spec_l22Sizes.Mem3 w gq co ro cb F (fun k => F ≤ k) out rows v9 fr wr) ∧ Aside0 (SzI n s 0 out fr) ∧ Aside0 (∀ a', 1 ≤ a' → a' < a → ∀ f, f ∈ rows.getD a' [] → ∀ g, g ∈ rows.getD (s - a') [] → szCov n 0 out f g))
          case atStart => exact ⟨1, out, [], Nat.le_refl _, by omega, by omega, by rw [← HU0.out], rfl, HM3, HI3, ⟨fun a' h1 h2 => by omega⟩⟩
          case round =>
            clear HM3 HI3 HU0 hu9
            obtain ⟨a, out, fr, ha1, has, hg3, rfl, rfl, HM, HI, HC⟩ := hrel
            by_cases hlt : a < s
            · have hltz : (a : Int) < (s : Int) := by omega
              have HC4 := Aside0.mk (fun f g (h : spec_l22Sizes.Pd rows s a 0 0 f g) => by obtain ⟨a', b1, b2, b3, b4⟩ := spec_l22Sizes.Pd_start h; exact HC.out a' b1 b2 f b3 g b4)
              obtain ⟨la, hla⟩ : ∃ la, la = (rows.getD a []).length := ⟨_, rfl⟩
              have hla9 : la ≤ 256 := by have h1 := HR.out.row a (by omega); rw [← hla, ← HNN.out] at h1; omega
              have HLA := Aside0.mk hla
              have ha3 : (a : Int) < (rows.length : Int) := by have := HRL.out; omega
              clear hla HC
              go_wp2
              go_loopg [7, 9, 11] la (fun gg v7 v9 v11 wr => ∃ (i : Nat) (out fr : List Int), i ≤ la ∧ la - i ≤ gg ∧ v7 = .int .i64 ((szU n 0 out : Nat) : Int) ∧ v11 = .int .i64 (i : Int) ∧ Aside0 (spec_l22Sizes.Mem3 w gq co ro cb F (fun k => F ≤ k) out rows v9 fr wr) ∧ Aside0 (SzI n s 0 out fr) ∧ Aside0 (∀ f g, spec_l22Sizes.Pd rows s a i 0 f g → szCov n 0 out f g))
              case atStart => exact ⟨0, out, fr, Nat.zero_le _, by omega, rfl, rfl, HM, HI, HC4⟩
              case round =>
                clear HM HI HC4
                obtain ⟨i, out, fr, hi, hg4, rfl, rfl, HM, HI, HC⟩ := hrel
                obtain ⟨A1, cA, k1, _, _, _⟩ := rows_cell HM.out.2.1 a (by have := HRL.out; omega)
                rw [← HLA.out] at k1
                by_cases hlt4 : i < la
                · have hltz4 : (i : Int) < (la : Int) := by omega
                  obtain ⟨lb, hlb⟩ : ∃ lb, lb = (rows.getD (s - a) []).length := ⟨_, rfl⟩
                  have hlb9 : lb ≤ 256 := by have h1 := HR.out.row (s - a) (by omega); rw [← hlb, ← HNN.out] at h1; omega
                  have HLB := Aside0.mk hlb
                  have hri := spec_l22Sizes.rd_get (l := rows.getD a []) (i := i) (by rw [← HLA.out]; exact hlt4)
                  obtain ⟨_, p, hp, hpe, hpT⟩ := HR.out.mem a (rd (rows.getD a []) (i : Int)) (by omega) (List.mem_of_getElem? hri)
                  rw [hpe] at hri
                  have HP := Aside0.mk (And.intro hp (And.intro hpT (And.intro hri hpe)))
                  have HC5 := Aside0.mk HC.out
                  clear hlb hri hp hpe hpT
                  go_wp2
                  go_loopg [7, 9, 12] lb (fun gg v7 v9 v12 wr => ∃ (j : Nat) (out fr : List Int), j ≤ lb ∧ lb - j ≤ gg ∧ v7 = .int .i64 ((szU n 0 out : Nat) : Int) ∧ v12 = .int .i64 (j : Int) ∧ Aside0 (spec_l22Sizes.Mem3 w gq co ro cb F (fun k => F ≤ k) out rows v9 fr wr) ∧ Aside0 (SzI n s 0 out fr) ∧ Aside0 (∀ f g, spec_l22Sizes.Pd rows s a i j f g → szCov n 0 out f g))
                  case atStart => exact ⟨0, out, fr, Nat.zero_le _, by omega, rfl, rfl, HM, HI, HC5⟩
                  case round =>
                    clear HM HI HC HC5 k1
                    obtain ⟨j, out, fr, hj, hg5, rfl, rfl, HM, HI, HC⟩ := hrel
                    obtain ⟨B1, cB, m1, _, _, _⟩ := rows_cell HM.out.2.1 (s - a) (by have := HRL.out; omega)
                    rw [← HLB.out] at m1
                    have e4 : ((s : Int) - (a : Int)).toNat = s - a := by omega
                    have e5 : (0 : Int) ≤ (s : Int) - (a : Int) := by omega
                    have e6 : (s : Int) - (a : Int) < (rows.length : Int) := by have := HRL.out; omega
                    by_cases hlt5 : j < lb
                    · have hltz5 : (j : Int) < (lb : Int) := by omega
                      obtain ⟨g1, d1, k1, k2⟩ := rows_elem HM.out.2.1 a (by have := HRL.out; omega) i (by rw [← HLA.out]; exact hlt4)
                      obtain ⟨g2, d2, k3, k4⟩ := rows_elem HM.out.2.1 (s - a) (by have := HRL.out; omega) j (by rw [← HLB.out]; exact hlt5)
                      rw [← HLA.out] at k1
                      rw [HP.out.2.2.2] at k2
                      rw [← HLB.out] at k3
                      have hB1 := m1.symm.trans k3
                      injection hB1 with hB1
                      injection hB1 with hB1 _ hcB
                      subst hB1
                      subst hcB
                      clear k3
                      have hrj := spec_l22Sizes.rd_get (l := rows.getD (s - a) []) (i := j) (by rw [← HLB.out]; exact hlt5)
                      obtain ⟨_, q, hq, hqe, hqT⟩ := HR.out.mem (s - a) (rd (rows.getD (s - a) []) (j : Int)) (by omega) (List.mem_of_getElem? hrj)
                      rw [hqe] at k4 hrj
                      obtain ⟨hp, hpT, hri, _⟩ := HP.out
                      obtain ⟨t1, t2⟩ := szT_pair hn hp hq (by omega) (by omega)
                      have l1 : p &&& q < szN n := Nat.lt_of_le_of_lt Nat.and_le_left hp
                      have l2 : p ||| q < szN n := Nat.or_lt_two_pow hp hq
                      have hNle : szN n ≤ 256 := by rw [← HNN.out]; exact hN256
                      obtain ⟨cv1, cv2⟩ := szPair_cov (u := 0) (s := s) (by omega) (by omega) (o := (out, fr)) HI.out.len hp hq
                      have HC2 : Aside0 (∀ f g, spec_l22Sizes.Pd rows s a i (j + 1) f g → szCov n 0 (szPair n s 0 (out, fr) p q).1 f g) := ⟨fun f g h => by
                        rcases spec_l22Sizes.Pd_j h with h | ⟨h1, h2⟩
                        · exact cv2 f g (HC.out f g h)
                        · have e1 : f = (p : Int) := by rw [hri] at h1; exact (Option.some.inj h1).symm
                          have e2 : g = (q : Int) := by rw [hrj] at h2; exact (Option.some.inj h2).symm
                          rw [e1, e2]; exact cv1⟩
                      have ea : Go.bits .and .i64 (p : Int) (q : Int) = ((p &&& q : Nat) : Int) := and_nat (by omega) (by omega)
                      have eo : Go.bits .or .i64 (p : Int) (q : Int) = ((p ||| q : Nat) : Int) := or_nat (by omega) (by omega)
                      have HX := Aside0.mk (show (p &&& q < szN n ∧ szT n (p &&& q) ≤ s) ∧ (p ||| q < szN n ∧ szT n (p ||| q) ≤ s) from ⟨⟨l1, by omega⟩, ⟨l2, by omega⟩⟩)
                      unfold szPair at HC2
                      have n1 := World.new_ne wr _ k1
                      have n2 := World.new_ne wr _ k2
                      have n3 := World.new_ne wr _ m1
                      have n4 := World.new_ne wr _ k4
                      have e7 : IntKind.i64.wrap ((s : Int) - (a : Int)) = (s : Int) - (a : Int) := by rw [i64_w]; exact w64 (by omega) (by omega)
                      have b1 : (0 : Int) ≤ (a : Int) := by omega
                      have b2 : (0 : Int) ≤ (i : Int) := by omega
                      have b3 : (0 : Int) ≤ (j : Int) := by omega
                      clear cv1 cv2 hrj hq hqe hqT hp hpT hri t1 t2 l1 l2 hNle HC
                      generalize p &&& q = x0 at *
                      generalize p ||| q = x1 at *
                      go_wp2
                      go_region_held3 (fun w' => w'.cell? ⟨ro, a, none⟩ = some (.slice (some ⟨g1, 0, none⟩) la d1) ∧ w'.cell? ⟨g1, i, none⟩ = some (.int .i64 (p : Int)) ∧ w'.cell? ⟨ro, s - a, none⟩ = some (.slice (some ⟨g2, 0, none⟩) lb cB) ∧ w'.cell? ⟨g2, j, none⟩ = some (.int .i64 (q : Int))) (go_keep) (fail)
                      go_wp2
                      obtain ⟨L, hL⟩ : ∃ L, L = wr.heap.size := ⟨_, rfl⟩
                      obtain ⟨W6, hW6⟩ : ∃ W6, W6 = (wr.alloc (.cells #[.int .i64 (x0 : Int), .int .i64 (x1 : Int)] 3)).drew := ⟨_, rfl⟩
                      rw [← hL, ← hW6]
                      have HM6 : Aside0 (spec_l22Sizes.Mem3 w gq co ro cb F (fun b => F ≤ b ∧ b ≠ L) out rows u9 fr W6) := ⟨by rw [hL, hW6]; exact HM.out.beside _⟩
                      have HL6 : Aside0 (W6.heap[L]? = some (.cells #[.int .i64 (x0 : Int), .int .i64 (x1 : Int)] 3 (0, 0))) := ⟨by rw [hL, hW6]; exact blk_drew (blk_new wr _)⟩
                      have HLF : Aside0 (L ≠ gq ∧ F ≤ L) := ⟨by have h1 := HM.out.2.2.2.2.2.1; have h2 := HM.out.2.2.2.2.2.2.1; rw [hL]; exact ⟨by omega, h2⟩⟩
                      have HI6 := Aside0.mk HI.out
                      clear hL hW6 n1 n2 n3 n4 e4 e5 e6 e7 b1 b2 b3 k1 k2 m1 k4 HM HI ea eo
                      go_loopg [7, 9, 14] 2 (fun gg v7 v9 v14 wr => ∃ k : Nat, k ≤ 2 ∧ 2 - k ≤ gg ∧ v14 = .int .i64 (k : Int) ∧ v7 = .int .i64 ((szU n 0 (spec_l22Sizes.st n s (out, fr) x0 x1 k).1 : Nat) : Int) ∧ Aside0 (spec_l22Sizes.Mem3 w gq co ro cb F (fun b => F ≤ b ∧ b ≠ L) (spec_l22Sizes.st n s (out, fr) x0 x1 k).1 rows v9 (spec_l22Sizes.st n s (out, fr) x0 x1 k).2 wr) ∧ Aside0 (SzI n s 0 (spec_l22Sizes.st n s (out, fr) x0 x1 k).1 (spec_l22Sizes.st n s (out, fr) x0 x1 k).2) ∧ Aside0 (wr.heap[L]? = some (.cells #[.int .i64 (x0 : Int), .int .i64 (x1 : Int)] 3 (0, 0))))
                      case atStart => exact ⟨0, by omega, by omega, rfl, rfl, HM6, HI6, HL6⟩
                      case round =>
                        clear HM6 HI6 HL6
                        obtain ⟨k, hk, hg6, rfl, rfl, HM, HI, HB⟩ := hrel
                        by_cases hlt6 : k < 2
                        · have hltz6 : (k : Int) < 2 := by omega
                          obtain ⟨x, hx, hxT, hcx, hnx⟩ : ∃ x, x < szN n ∧ szT n x ≤ s ∧ wr.cell? ⟨L, k, none⟩ = some (.int .i64 (x : Int)) ∧ spec_l22Sizes.st n s (out, fr) x0 x1 (k + 1) = szTake n s 0 (spec_l22Sizes.st n s (out, fr) x0 x1 k) x := by
                            rcases (show k = 0 ∨ k = 1 by omega) with h | h
                            · subst h; exact ⟨x0, HX.out.1.1, HX.out.1.2, blk_cell HB.out 0, rfl⟩
                            · subst h; exact ⟨x1, HX.out.2.1, HX.out.2.2, blk_cell HB.out 1, rfl⟩
                          have HNX := Aside0.mk hnx
                          clear hnx
                          generalize hst1 : spec_l22Sizes.st n s (out, fr) x0 x1 (k + 1) = o1 at *
                          have HO1 := Aside0.mk hst1
                          clear hst1
                          generalize spec_l22Sizes.st n s (out, fr) x0 x1 k = o at *
                          have hkeep := szTake_keep (u := 0) (by omega) (by omega) HI.out hx hxT
                          have hleft := szTake_left (by omega) HI.out hx hxT
                          have hnul := HI.out.nul hn hx
                          rw [← HNX.out] at hkeep hleft
                          have HKEEP := Aside0.mk hkeep
                          have hlen : o.1.length = N := by rw [HI.out.len, HNN.out]
                          have hlen1 : o1.1.length = N := by rw [hkeep.len, HNN.out]
                          rw [← HNN.out] at hx
                          obtain ⟨y1, z1⟩ := Kd.R_celln 0 HM.out.1 ((x : Nat) : Int) (by omega) (by omega)
                          rw [Int.toNat_natCast] at y1 z1
                          have y2 : wr.cell? ⟨gq, x, none⟩ = some (.int .i64 (rd o.1 (x : Int))) := y1
                          have hxz : (x : Int) < (N : Int) := by omega
                          have hu9 : szU n 0 o.1 ≤ 256 := Nat.le_trans (cnt_le _ _) (by rw [← HNN.out]; exact hN256)
                          have hfl : o.2.length ≤ 256 := by have h := HI.out.cou; rw [← HNN.out] at h; omega
                          have hcxn : ∀ nd, (wr.drewN nd).cell? ⟨L, k, none⟩ = some (.int .i64 (x : Int)) := fun nd => hcx
                          have hyn : ∀ nd, (wr.drewN nd).cell? ⟨gq, x, none⟩ = some (.int .i64 (rd o.1 (x : Int))) := fun nd => y2
                          have hzn : ∀ nd, (wr.drewN nd).frozen? ⟨gq, x, none⟩ = false := fun nd => z1
                          have HLEN := Aside0.mk (And.intro hlen hlen1)
                          have HLEFT := Aside0.mk hleft
                          have HFL := Aside0.mk hfl
                          have HXN := Aside0.mk hx
                          have HXT := Aside0.mk hxT
                          clear y1 hkeep hlen hlen1 hleft hfl hxT
                          by_cases hc : szIs n 0 o.1 x = true
                          · obtain ⟨d1, d2, d3⟩ := hnul.mpr hc
                            rw [← HNN.out] at d3
                            rw [d1] at y2 hyn
                            have HC6 := Aside0.mk hc
                            have HPT := Aside0.mk (HI.out.put (Int.le_refl 0) (by omega) (by rw [← HNN.out]; exact HXN.out) HXT.out hc).2.1
                            have d4 : (0 : Int) < (x : Int) := by omega
                            have d5 : (x : Int) < (N : Int) - 1 := by omega
                            have d7 := HLF.out.1
                            have d8 := Ne.symm d7
                            clear hnul hc d1 d3 hx
                            go_wp2
                            go_quiet (first | (go_at_call 14; (with_reducible refine (CF.out _).mono ?_); rintro e w' ⟨rfl, ⟨nd2, rfl⟩⟩; (first | exact ⟨rfl, _, World.drewN_drewN _ _ _⟩ | exact ⟨rfl, _, Eq.trans (World.drewN_drewN _ _ _) (congrArg (World.drewN _) (Nat.add_assoc _ _ _))⟩)))
                            obtain ⟨Af, cf, ef⟩ := Kd.R_slice HM.out.2.2.1
                            subst ef
                            go_wp2_with (first | ((with_reducible refine gate_store (t := 3) (p := 157) rfl ?_); refine store_event (t := 3) (p := 157) (v := ?vo_w8) (w1 := ((wr.drewN nq).setCell ⟨gq, x, none⟩ (.int .i64 (s : Int)))) ?hg ?ho ?hn ?hr ?_; (case ho => rfl); (case hg => rfl); (case hn => rfl); (case hr => first | (go_simp; done) | (go_simp; rfl)); intro w7 hw; have HM7 : Aside0 (spec_l22Sizes.Mem3 w gq co ro cb F (fun b => F ≤ b ∧ b ≠ L) (o.1.set x (s : Int)) rows (.slice Af o.2.length cf) o.2 w7) := ⟨by rw [hw]; exact (HM.out.below (pw_below_drewN (Below.refl _ _) nq)).put HGW.out x (s : Int)⟩; have HB7 : Aside0 (w7.heap[L]? = some (.cells #[.int .i64 (x0 : Int), .int .i64 (x1 : Int)] 3 (0, 0))) := ⟨by rw [hw]; exact blk_far (p := ⟨gq, x, none⟩) HB.out HLF.out.1 _⟩; have hcx7 : w7.cell? ⟨L, k, none⟩ = some (.int .i64 (x : Int)) := (by rw [hw, World.cell?_setCell_other _ _ _ _ (by simp [HLF.out.1])]; exact hcx); clear hw) | ((with_reducible refine gate_builtin (b := .append) (xs := #[.tmp 158, .tmp 163]) rfl ?_); at_builtin; refine Kd.R_append (Kd.int .i64) (w0 := w) w.heap.size rfl (.tmp 158) (.tmp 163) 31 3 (.int .i64 0) 8 rfl Tryd.underlying31 info3 rfl (by decide) (by omega) (.slice Af o.2.length cf) o.2 (x : Int) [.int .i64 (x : Int)] (fun b => F ≤ b ∧ b ≠ L) (fun _ => False) rfl rfl ?aP (fun _ hk => hk.elim) ?aF ?aO ?aB ?aS ?aL ?_; (case aP => exact rfl); (case aB => exact HM7.out.2.2.2.2.2.2.2); (case aF => exact HM7.out.2.2.2.2.1); (case aO => exact HM7.out.2.2.1); (case aS => exact HM7.out.2.2.2.2.2.2.2.size); (case aL => have := HFL.out; omega); intro v8 w8 ho hb hg hat; have HB8 : Aside0 (w8.heap[L]? = some (.cells #[.int .i64 (x0 : Int), .int .i64 (x1 : Int)] 3 (0, 0))) := ⟨(hg.block L (blk_lt HB7.out) (fun e => (HM7.out.2.2.1.1 L e.symm).2 rfl)).trans HB7.out⟩; have HM8 := Aside0.mk (HM7.out.grow ho hb hg); clear ho hb hg hat))
                            have ho1 : o1 = (o.1.set x (s : Int), o.2 ++ [(x : Int)]) := by rw [HNX.out]; exact if_pos HC6.out
                            go_roundg (2 - (k + 1))
                            case measure => omega
                            case rel => exact ⟨k + 1, by omega, by omega, by push_cast; rfl, by have h := HPT.out; rw [HO1.out, ho1, ← h]; push_cast; congr 1; omega, ⟨by rw [HO1.out, ho1]; exact HM8.out⟩, ⟨by rw [HO1.out]; exact HKEEP.out⟩, HB8⟩
                          · have ho1 : o1 = o := by rw [HNX.out]; exact if_neg hc
                            have hcase : rd o.1 (x : Int) ≠ 0 ∨ (rd o.1 (x : Int) = 0 ∧ x = 0) ∨ (rd o.1 (x : Int) = 0 ∧ 0 < x ∧ ¬ x + 1 < szN n) := by
                              by_cases c1 : rd o.1 (x : Int) = 0
                              · by_cases c2 : 0 < x
                                · exact .inr (.inr ⟨c1, c2, fun c3 => hc (hnul.mp ⟨c1, c2, c3⟩)⟩)
                                · exact .inr (.inl ⟨c1, by omega⟩)
                              · exact .inl c1
                            rw [← HNN.out] at hcase
                            have HO2 := Aside0.mk ho1
                            clear hc hnul ho1
                            generalize rd o.1 (x : Int) = y at *
                            rcases hcase with d1 | ⟨d1, d2⟩ | ⟨d1, d2, d3⟩
                            · have d4 : (y == 0) = false := beq_eq_false_iff_ne.mpr d1
                              have d6 : decide (y = 0) = false := decide_eq_false d1
                              clear hx
                              go_wp2
                              go_quiet (first | (go_at_call 14; (with_reducible refine (CF.out _).mono ?_); rintro e w' ⟨rfl, ⟨nd2, rfl⟩⟩; (first | exact ⟨rfl, _, World.drewN_drewN _ _ _⟩ | exact ⟨rfl, _, Eq.trans (World.drewN_drewN _ _ _) (congrArg (World.drewN _) (Nat.add_assoc _ _ _))⟩)))
                              go_wp2
                              go_roundg (2 - (k + 1))
                              case measure => omega
                              case rel => exact ⟨k + 1, by omega, by omega, by push_cast; rfl, by rw [HO1.out, HO2.out], ⟨by rw [HO1.out, HO2.out]; exact spec_l22Sizes.Mem3.below HM.out (pw_below_drewN (Below.refl _ _) _)⟩, ⟨by rw [HO1.out, HO2.out]; exact HI.out⟩, ⟨HB.out⟩⟩
                            · subst d1
                              subst d2
                              clear hx
                              go_wp2
                              go_quiet (first | (go_at_call 14; (with_reducible refine (CF.out _).mono ?_); rintro e w' ⟨rfl, ⟨nd2, rfl⟩⟩; (first | exact ⟨rfl, _, World.drewN_drewN _ _ _⟩ | exact ⟨rfl, _, Eq.trans (World.drewN_drewN _ _ _) (congrArg (World.drewN _) (Nat.add_assoc _ _ _))⟩)))
                              go_wp2
                              go_roundg (2 - (k + 1))
                              case measure => omega
                              case rel => exact ⟨k + 1, by omega, by omega, by push_cast; rfl, by rw [HO1.out, HO2.out], ⟨by rw [HO1.out, HO2.out]; exact spec_l22Sizes.Mem3.below HM.out (pw_below_drewN (Below.refl _ _) _)⟩, ⟨by rw [HO1.out, HO2.out]; exact HI.out⟩, ⟨HB.out⟩⟩
                            · subst d1
                              have d5 : decide ((x : Int) < (N : Int) - 1) = false := decide_eq_false (by omega)
                              have d4 : (0 : Int) < (x : Int) := by omega
                              clear hx
                              go_wp2
                              go_quiet (first | (go_at_call 14; (with_reducible refine (CF.out _).mono ?_); rintro e w' ⟨rfl, ⟨nd2, rfl⟩⟩; (first | exact ⟨rfl, _, World.drewN_drewN _ _ _⟩ | exact ⟨rfl, _, Eq.trans (World.drewN_drewN _ _ _) (congrArg (World.drewN _) (Nat.add_assoc _ _ _))⟩)))
                              go_wp2
                              go_roundg (2 - (k + 1))
                              case measure => omega
                              case rel => exact ⟨k + 1, by omega, by omega, by push_cast; rfl, by rw [HO1.out, HO2.out], ⟨by rw [HO1.out, HO2.out]; exact spec_l22Sizes.Mem3.below HM.out (pw_below_drewN (Below.refl _ _) _)⟩, ⟨by rw [HO1.out, HO2.out]; exact HI.out⟩, ⟨HB.out⟩⟩
                        · have hgo5 : decide ((k : Int) < 2) = false := decide_eq_false (by omega)
                          have hgo6 : decide (k < 2) = false := decide_eq_false (by omega)
                          have hk2 : k = 2 := by omega
                          have HK2 := Aside0.mk hk2
                          clear hk2 hlt6
                          go_wp2
                          clear hgo5 hgo6
                          go_roundg (lb - (j + 1))
                          case measure => omega
                          case rel => exact ⟨j + 1, (spec_l22Sizes.st n s (out, fr) x0 x1 k).1, (spec_l22Sizes.st n s (out, fr) x0 x1 k).2, by omega, by omega, rfl, by push_cast; rfl, ⟨HM.out.loose⟩, HI, ⟨by rw [HK2.out]; exact HC2.out⟩⟩
                    · have hgo5 : decide ((j : Int) < (lb : Int)) = false := decide_eq_false (by omega)
                      have hgo6 : decide (j < lb) = false := decide_eq_false (by omega)
                      have hjl : j = lb := by omega
                      go_wp2
                      clear hgo5 hgo6 e4 e5 e6
                      go_roundg (la - (i + 1))
                      case measure => omega
                      case rel => exact ⟨i + 1, out, fr, by omega, by omega, rfl, by push_cast; rfl, HM, HI, ⟨fun f g h => HC.out f g (by rw [hjl, HLB.out]; exact spec_l22Sizes.Pd_i h)⟩⟩
                · have hgo5 : decide ((i : Int) < (la : Int)) = false := decide_eq_false (by omega)
                  have hgo6 : decide (i < la) = false := decide_eq_false (by omega)
                  have hil : i = la := by omega
                  go_wp2
                  clear hgo5 hgo6
                  go_roundg (12 - (a + 1))
                  case measure => omega
                  case rel => exact ⟨a + 1, out, fr, by omega, by omega, by omega, rfl, by push_cast; rfl, HM, HI, ⟨fun a' h1 h2 f h3 g h4 => HC.out f g (by rw [hil, HLA.out]; exact spec_l22Sizes.Pd_a h1 h2 h3 h4)⟩⟩
            · have hgo3 : decide ((a : Int) < (s : Int)) = false := decide_eq_false (by omega)
              have hgo4 : decide (a < s) = false := decide_eq_false (by omega)
              have hdone := szCov_done (u := 0) hn hs2 HR.out (out := out) (fun a' h1 h2 => HC.out a' h1 (by omega))
              have HI4 := Aside0.mk (HI.out.next (by omega) hdone)
              have HR4 := Aside0.mk (SzR.push (u := 0) (by omega) (by omega) HR.out HI.out hdone)
              obtain ⟨Af, cf, ef⟩ := Kd.R_slice HM.out.2.2.1
              clear hdone HC
              subst ef
              go_wp2_with (first | ((with_reducible refine gate_builtin (b := .append) (xs := #[.tmp 167, .tmp 169]) rfl ?_); at_builtin; refine Kd.S_append (Kd.slice 3 (Kd.int .i64)) (w0 := w) (W := wr) w.heap.size rfl (.tmp 167) (.tmp 169) 39 31 (.slice none 0 0) 24 rfl Tryd.underlying39 info31 rfl (by decide) (by omega) (.slice (some ⟨ro, 0, none⟩) rows.length cb) rows fr [.slice Af fr.length cf] (fun k => k ≠ gq) (fun k => F ≤ k) rfl rfl ⟨_, rfl, HM.out.2.2.1⟩ ?aK ?aF ?aO HM.out.2.2.2.2.2.2.2 HM.out.2.2.2.2.2.2.2.size (by have := HRL.out; omega) ?_; (case aK => exact spec_l22Sizes.aK HM.out); (case aF => exact spec_l22Sizes.aF HM.out); (case aO => exact Kd.S_mono HM.out.2.1 (fun k hk => ⟨hk.1, by omega⟩)); intro v8 w8 hs8 hb8 hg8 hat8; obtain ⟨ro8, cb8, hv8, _, _, _⟩ := Kd.S_form hs8 (by simp); subst hv8; have HM8 := Aside0.mk (spec_l22Sizes.next HM.out hs8 hb8 hg8 rfl); clear hs8 hb8 hg8 hat8))
              clear hgo3 hgo4
              go_roundg (12 - (s + 1))
              case measure => omega
              case rel => exact ⟨s + 1, out, rows ++ [fr], ro8, cb8, by omega, by omega, by omega, by first | rfl | simp, rfl, by push_cast; rfl, HM8, HI4, HR4⟩
theorem spec_l22Sizes.calls (a0 : Int) (r : List Int) (w : World) (h : spec_l22Sizes.f a0 = some r) :
    Calls Tryd.prog 9 #[.int .i64 a0] w fun e w' => ∃ v0_ : Value, e = .returned v0_ ∧ Kd.R (Kd.int .i64) 3 w' w.heap.size (fun _ => True) v0_ r ∧ Below w.heap.size w w' := by
  unfold spec_l22Sizes.f at h
  by_cases hc : 0 ≤ a0 ∧ a0 ≤ 3
  · rw [if_pos hc] at h
    obtain ⟨n, rfl⟩ := nat_of hc.1
    rw [Int.toNat_natCast] at h
    rw [← Option.some.inj h]
    exact spec_l22Sizes.nat n (by omega) w
  · rw [if_neg hc] at h; cases h


end Go.Proofs.YtmdpjmcleckedaaDoor.Print
