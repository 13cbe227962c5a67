/- Functions of the given program as plain Lean functions, with proofs that their calls compute them, or lemmas on these. Laid by a program of this repo for the seat YtmdpjmcleckedaaDoor; Lean checks it. -/
import Derived.Test.YtmdpjmcleckedaaDoorKExactSmallestFormula0
import Derived.Test.YtmdpjmcleckedaaDoorKExactSmallestFormula12
import Derived.Test.YtmdpjmcleckedaaDoorKExactSmallestFormula14
import Derived.Test.YtmdpjmcleckedaaDoorKExactSmallestFormula15
import Derived.Test.YtmdpjmcleckedaaDoorM15
import Derived.Test.YtmdpjmcleckedaaDoorM16
import Derived.Deep.RegionLaw
import Derived.BigRegion
import Derived.Deep.AppendLies
namespace Go.Proofs.YtmdpjmcleckedaaDoor.Print
open Go.RowKit Go.Proofs.YtmdpjmcleckedaaDoorW.PrintWords Go.Proofs.YtmdpjmcleckedaaDoorW.PrintLast Go.Proofs.YtmdpjmcleckedaaDoorW.PrintMore
attribute [local go_sem] max2_int min2_int max_two min_two max_three min_three max_four min_four   -- for this text's walks alone
set_option linter.unusedVariables false
set_option linter.unusedSimpArgs false

--OWNPART
/-! ### impl_sizes: function 12 -/
--IMPORT M15
--IMPORT M16
--IMPORT Derived.Deep.RegionLaw
--IMPORT Derived.BigRegion
--IMPORT Derived.Deep.AppendLies
open Go.Proofs.YtmdpjmcleckedaaDoor.M
/-- what lies in memory: the sizes so far (their variable at po, their cells at go) and the words by sizes (their variable at pb, their row at ro) -/
def impl_sizes.c.Mem (w : World) (po pb go co ro cb : Nat) (out : List Int) (rows : List (List Int)) (W : World) : Prop :=
  W.heap[po]? = some (.cells #[.slice (some ⟨go, 0, none⟩) out.length co] 31 (0, 0)) ∧
  W.heap[pb]? = some (.cells #[.slice (some ⟨ro, 0, none⟩) rows.length cb] 39 (0, 0)) ∧
  Kd.R (Kd.int .i64) 3 W w.heap.size (fun k => k = go) (.slice (some ⟨go, 0, none⟩) out.length co) out ∧
  Kd.S (Kd.slice 3 (Kd.int .i64)) 31 W w.heap.size (fun k => k ≠ go ∧ k ≠ po ∧ k ≠ pb) (.slice (some ⟨ro, 0, none⟩) rows.length cb) rows ∧
  Below w.heap.size w W
theorem impl_sizes.c.Mem.below {w : World} {po pb go co ro cb : Nat} {out : List Int} {rows : List (List Int)} {W W' : World} (h : impl_sizes.c.Mem w po pb go co ro cb out rows W) (hb : Below W.heap.size W W') : impl_sizes.c.Mem w po pb go co ro cb out rows W' :=
  ⟨blk_below h.1 hb, blk_below h.2.1 hb, Kd.R_below h.2.2.1 hb, Kd.S_below h.2.2.2.1 hb, h.2.2.2.2.trans (hb.mono h.2.2.2.2.size)⟩
set_option maxHeartbeats 4000000 in
set_option maxRecDepth 100000 in
theorem impl_sizes.c.skip (w : World) (po pb go co ro cb : Nat) (out : List Int) (rows : List (List Int)) (x s : Nat) (hx : x < out.length) (hn : ¬ rd out (x : Int) < 0) (W : World) (h : impl_sizes.c.Mem w po pb go co ro cb out rows W) :
    Calls Tryd.prog 23 #[.int .i64 (x : Int), .int .i64 (s : Int), .pointer (some ⟨po, 0, none⟩), .pointer (some ⟨pb, 0, none⟩)] W fun e W' => e = .returned (.tuple #[]) ∧ impl_sizes.c.Mem w po pb go co ro cb out rows W' ∧ Below W.heap.size W W' := by
  have c0 : W.cell? ⟨po, 0, none⟩ = some (.slice (some ⟨go, 0, none⟩) out.length co) := blk_cell h.1 0
  have c1 := (Kd.R_celln 0 h.2.2.1 (x : Int) (by omega) (by omega)).1
  rw [Int.toNat_natCast] at c1
  have c1' : W.cell? ⟨go, x, none⟩ = some (.int .i64 (rd out (x : Int))) := c1
  have hxl : (x : Int) < (out.length : Int) := by omega
  have H := Aside0.mk h
  have hd : decide (rd out (x : Int) < 0) = false := decide_eq_false hn
  generalize rd out (x : Int) = y at *
  generalize hL : out.length = L at *
  clear h c1 hn hx
  go_enter Tryd.func23, Tryd.ntmps23
  go_wp2
  refine bodyPost_end (v := .tuple #[]) (by simp [results, Tryd.results23]) rfl ⟨rfl, ?_, ?_⟩
  · exact H.out
  · exact Below.refl _ _
set_option maxHeartbeats 8000000 in
set_option maxRecDepth 100000 in
theorem impl_sizes.c.take (w : World) (po pb go co ro cb : Nat) (out : List Int) (rows : List (List Int)) (x s : Nat) (hx : x < out.length) (hs : s < rows.length) (hl : (rows.getD s []).length ≤ 1000) (hn : rd out (x : Int) < 0) (W : World) (h : impl_sizes.c.Mem w po pb go co ro cb out rows W) (hp : w.heap.size ≤ po ∧ w.heap.size ≤ pb ∧ w.heap.size ≤ go ∧ w.heap.size ≤ ro ∧ po ≠ pb ∧ po ≠ go ∧ pb ≠ go ∧ po ≠ ro ∧ pb ≠ ro ∧ go ≠ ro) :
    Calls Tryd.prog 23 #[.int .i64 (x : Int), .int .i64 (s : Int), .pointer (some ⟨po, 0, none⟩), .pointer (some ⟨pb, 0, none⟩)] W fun e W' => e = .returned (.tuple #[]) ∧ impl_sizes.c.Mem w po pb go co ro cb (out.set x (s : Int)) (rows.set s (rows.getD s [] ++ [(x : Int)])) W' ∧ ∀ k, k ≠ s → W'.cell? ⟨ro, k, none⟩ = W.cell? ⟨ro, k, none⟩ := by
  have c0 : W.cell? ⟨po, 0, none⟩ = some (.slice (some ⟨go, 0, none⟩) out.length co) := blk_cell h.1 0
  obtain ⟨c1, z1⟩ := Kd.R_celln 0 h.2.2.1 (x : Int) (by omega) (by omega)
  rw [Int.toNat_natCast] at c1 z1
  have c1' : W.cell? ⟨go, x, none⟩ = some (.int .i64 (rd out (x : Int))) := c1
  have hxl : (x : Int) < (out.length : Int) := by omega
  have hd : decide (rd out (x : Int) < 0) = true := decide_eq_true hn
  obtain ⟨W1, hW1⟩ : ∃ W1, W1 = W.setCell ⟨go, x, none⟩ (.int .i64 (s : Int)) := ⟨_, rfl⟩
  have lgo : go < W.heap.size := Kd.R_lt h.2.2.1 go (by simp [Value.ownBlock])
  have lro : ro < W.heap.size := Kd.S_lt h.2.2.2.1 ro (by simp [Value.ownBlock])
  have lpo := blk_lt h.1
  have lpb := blk_lt h.2.1
  obtain ⟨p1, p2, p3, p4, p5, p6, p7, p8, p9, p10⟩ := hp
  have hsz : W1.heap.size = W.heap.size := by rw [hW1]; simp [World.setCell]
  have hR1 : Kd.R (Kd.int .i64) 3 W1 w.heap.size (fun k => k = go) (.slice (some ⟨go, 0, none⟩) out.length co) (out.set x (s : Int)) := by
    rw [hW1]; have := Kd.R_putn h.2.2.1 (x : Int) (s : Int); rw [Int.toNat_natCast] at this; exact this
  have hS1 : Kd.S (Kd.slice 3 (Kd.int .i64)) 31 W1 w.heap.size (fun k => k ≠ go ∧ k ≠ po ∧ k ≠ pb) (.slice (some ⟨ro, 0, none⟩) rows.length cb) rows := by
    rw [hW1]; exact Kd.S_far (p := ⟨go, x, none⟩) h.2.2.2.1 (fun k hk => hk.1) _
  have b1 : W1.heap[po]? = some (.cells #[.slice (some ⟨go, 0, none⟩) out.length co] 31 (0, 0)) := by rw [hW1]; exact blk_far (p := ⟨go, x, none⟩) h.1 p6 _
  have b2 : W1.heap[pb]? = some (.cells #[.slice (some ⟨ro, 0, none⟩) rows.length cb] 39 (0, 0)) := by rw [hW1]; exact blk_far (p := ⟨go, x, none⟩) h.2.1 p7 _
  have hB1 : Below w.heap.size w W1 := by rw [hW1]; exact h.2.2.2.2.setCell (p := ⟨go, x, none⟩) p3 _
  have hro1 : ∀ k, W1.cell? ⟨ro, k, none⟩ = W.cell? ⟨ro, k, none⟩ := fun k => by rw [hW1]; exact World.cell?_setCell_other _ _ _ _ (by simp [Ne.symm p10])
  obtain ⟨A0, n0, cc0, r1, r2, r3, r4⟩ := rows_push (P := Tryd.prog) (t := 31) (ty := 31) Tryd.underlying31 info3 (fun k hk => ⟨by omega, by omega, by omega⟩) hB1.size hS1 s hs [(x : Int)] (by show ((rows.getD s []).length + 1) * 8 ≤ _; omega)
  have q1 : W1.cell? ⟨pb, 0, none⟩ = some (.slice (some ⟨ro, 0, none⟩) rows.length cb) := blk_cell b2 0
  have X0 := r4 (W1.alloc (.cells #[.int .i64 (x : Int)] 3)) ⟨W1.heap.size, 0, none⟩ 1 1 (below_alloc (Below.refl _ _) _) rfl (fun j hj => by
    obtain rfl : j = 0 := by simpa using hj
    rw [add_plain]; exact blk_cell (blk_new W1 _) 0)
  have X1 := r4 (W1.alloc (.cells #[.int .i64 (x : Int)] 3)).drew ⟨W1.heap.size, 0, none⟩ 1 1 (below_drew (below_alloc (Below.refl _ _) _)) rfl (fun j hj => by
    obtain rfl : j = 0 := by simpa using hj
    rw [add_plain]; exact blk_cell (blk_drew (blk_new W1 _)) 0)
  obtain ⟨A2, m2, k2, w2, X2, e2, f2, g2, S2⟩ := X1
  have n1 := World.new_ne W1 _ q1
  have n2 := World.new_ne W1 _ r1
  have q4 := pw_cell_below (below_alloc (Below.refl _ W1) (.cells #[.int .i64 (x : Int)] 3)) q1
  have r5 := pw_cell_below (below_alloc (Below.refl _ W1) (.cells #[.int .i64 (x : Int)] 3)) r1
  have q2 : w2.cell? ⟨pb, 0, none⟩ = some (.slice (some ⟨ro, 0, none⟩) rows.length cb) := g2.cell q1 (fun e => (r3 pb e.symm).1.2.2 rfl)
  have hsr : (s : Int) < (rows.length : Int) := by omega
  have hgr : ∀ k, k < W1.heap.size → (∀ j, (Value.slice A0 n0 cc0).ownBlock = some j → k ≠ j) → w2.heap[k]? = W1.heap[k]? := fun k hk hne => g2.block k hk (fun e => hne k e.symm rfl)
  have FIN : impl_sizes.c.Mem w po pb go co ro cb (out.set x (s : Int)) (rows.set s (rows.getD s [] ++ [(x : Int)])) (w2.setCell ⟨ro, s, none⟩ (.slice A2 m2 k2)) ∧ ∀ k, k ≠ s → (w2.setCell ⟨ro, s, none⟩ (.slice A2 m2 k2)).cell? ⟨ro, k, none⟩ = W.cell? ⟨ro, k, none⟩ := by
    refine ⟨⟨?_, ?_, ?_, ?_, ?_⟩, fun k hk => ?_⟩
    · rw [List.length_set]
      exact blk_far (p := ⟨ro, s, none⟩) ((hgr po (by omega) (fun j hj => (r3 j hj).1.2.1.symm)).trans b1) p8 _
    · rw [List.length_set]
      exact blk_far (p := ⟨ro, s, none⟩) ((hgr pb (by omega) (fun j hj => (r3 j hj).1.2.2.symm)).trans b2) p9 _
    · rw [List.length_set]
      exact Kd.R_far (p := ⟨ro, s, none⟩) (Kd.R_grown hR1 g2 (fun k hk e => (r3 k e.symm).1.1 hk)) (fun k hk => by rw [hk]; exact p10) _
    · rw [List.length_set]; exact S2
    · exact (hB1.grown g2 hB1.size (fun k hk => (r3 k hk).2.2)).setCell (p := ⟨ro, s, none⟩) p4 _
    · rw [World.cell?_setCell_other _ _ _ _ (by simp [hk]), World.cell?_of_block (w := W1) (hgr ro (by omega) (fun j hj => (r3 j hj).2.1.symm)), hro1]
  have HW1 := Aside0.mk hW1
  have FIN' := Aside0.mk FIN
  generalize rd out (x : Int) = y at *
  clear FIN hgr r3 r4 hR1 b1 b2 hB1 hro1 g2 S2 hS1 hn hx hs hl h c1 lgo lro lpo lpb p1 p2 p3 p4 p5 p6 p7 p8 p9 hsz hW1 X0
  generalize hL : out.length = L at *
  generalize hM : rows.length = M at *
  clear hL hM
  go_enter Tryd.func23, Tryd.ntmps23
  go_wp2
  rw [← HW1.out]
  go_region_law ((refine step_app (by rfl) _ _ _ (by rfl) _ _ _ _ w2 (by rfl) (by rfl) X2 ?_))
  all_goals
    refine bodyPost_end (v := .tuple #[]) (by simp [results, Tryd.results23]) rfl ⟨rfl, ?_, ?_⟩
    · exact FIN'.out.1
    · exact FIN'.out.2
def impl_sizes.f (a0 : Int) : Option (List Int) := if 0 ≤ a0 ∧ a0 ≤ 3 then some (szL a0.toNat) else none
/-- is a number among the first ones of a list -/
theorem impl_sizes.idx (l : List Int) (a : Int) (hl : l.length ≤ 1000) : ∀ d i, i + d = l.length → ∃ k r, slices_Index_int_int.l0 k l a (l.length : Int) (i : Int) = some r ∧ (r ≥ 0 ↔ ∃ j : Nat, i ≤ j ∧ j < l.length ∧ rd l (j : Int) = a)
  | 0, i, h => ⟨1, -1, by rw [slices_Index_int_int.l0, if_neg (by omega)], ⟨fun h => by omega, fun ⟨j, h1, h2, _⟩ => by omega⟩⟩
  | d + 1, i, h => by
    by_cases e : a = rd l (i : Int)
    · exact ⟨1, i, by rw [slices_Index_int_int.l0, if_pos (by omega), if_pos (by omega), if_pos (by omega), if_pos e], ⟨fun _ => ⟨i, Nat.le_refl _, by omega, e.symm⟩, fun _ => by omega⟩⟩
    · obtain ⟨k, r, h1, h2⟩ := impl_sizes.idx l a hl d (i + 1) (by omega)
      refine ⟨k + 1, r, ?_, h2.trans ⟨fun ⟨j, a1, a2, a3⟩ => ⟨j, by omega, a2, a3⟩, fun ⟨j, a1, a2, a3⟩ => ⟨j, ?_, a2, a3⟩⟩⟩
      · rw [slices_Index_int_int.l0, if_pos (by omega), if_pos (by omega), if_pos (by omega), if_neg e, w64 (by omega) (by omega)]
        exact h1
      · rcases Nat.lt_or_ge i j with h3 | h3
        · exact h3
        · obtain rfl : i = j := by omega
          exact absurd a3.symm e
theorem impl_sizes.has (l : List Int) (a : Int) (hl : l.length ≤ 1000) : ∃ k b, slices_Contains_int_int.f k l a = some b ∧ (b = true ↔ ∃ j : Nat, j < l.length ∧ rd l (j : Int) = a) := by
  obtain ⟨k, r, h1, h2⟩ := impl_sizes.idx l a hl l.length 0 (by omega)
  refine ⟨k, decide (r ≥ 0), ?_, ?_⟩
  · unfold slices_Contains_int_int.f slices_Index_int_int.f
    rw [show ((0 : Nat) : Int) = 0 from rfl] at h1
    rw [h1]; rfl
  · rw [decide_eq_true_eq, h2]
    exact ⟨fun ⟨j, _, h3, h4⟩ => ⟨j, h3, h4⟩, fun ⟨j, h3, h4⟩ => ⟨j, Nat.zero_le _, h3, h4⟩⟩
/-- the closure's call, in words of the search -/
theorem impl_sizes.tk {n s : Nat} (hs1 : 1 ≤ s) {rows : List (List Int)} (hrl : rows.length = s) {out fr : List Int} {x : Nat} (hx : x < szN n) (hT : szT n x ≤ s) (hN : szN n ≤ 256) {w : World} {po pb go co ro cb : Nat} (hp : w.heap.size ≤ po ∧ w.heap.size ≤ pb ∧ po ≠ pb ∧ po ≠ go ∧ pb ≠ go) {W : World} (hM : impl_sizes.c.Mem w po pb go co ro cb out (rows ++ [fr]) W) (hI : SzI n s (-1) out fr) :
    Calls Tryd.prog 23 #[.int .i64 (x : Int), .int .i64 (s : Int), .pointer (some ⟨po, 0, none⟩), .pointer (some ⟨pb, 0, none⟩)] W fun e W' => e = .returned (.tuple #[]) ∧ impl_sizes.c.Mem w po pb go co ro cb (szTake n s (-1) (out, fr) x).1 (rows ++ [(szTake n s (-1) (out, fr) x).2]) W' ∧ SzI n s (-1) (szTake n s (-1) (out, fr) x).1 (szTake n s (-1) (out, fr) x).2 ∧ ∀ k, k ≠ s → W'.cell? ⟨ro, k, none⟩ = W.cell? ⟨ro, k, none⟩ := by
  have hkeep := szTake_keep (u := -1) (by omega) hs1 (o := (out, fr)) hI hx hT
  have hneg := hI.neg hx
  have hxl : x < out.length := by rw [hI.len]; exact hx
  have hc := hI.cou
  obtain ⟨p1, p2, p3, p4, p5⟩ := hp
  obtain ⟨q1, q2, q3⟩ := hM.2.2.2.1.elim (fun f h => h.1 ro (by simp [Value.ownBlock]))
  have b1 := Kd.R_base hM.2.2.1 go (by simp [Value.ownBlock])
  have b2 := Kd.S_base hM.2.2.2.1 ro (by simp [Value.ownBlock])
  have lro := Kd.S_lt hM.2.2.2.1 ro (by simp [Value.ownBlock])
  by_cases hn : rd out (x : Int) < 0
  · have hi : szIs n (-1) out x = true := by rw [← hneg]; exact decide_eq_true hn
    have e1 : (rows ++ [fr]).getD s [] = fr := by rw [szgetD_snoc, if_neg (by omega), if_pos hrl.symm]
    have hc := impl_sizes.c.take w po pb go co ro cb out (rows ++ [fr]) x s hxl (by simp [hrl]) (by rw [e1]; omega) hn W hM ⟨p1, p2, b1, b2, p3, p4, p5, q2.symm, q3.symm, q1.symm⟩
    refine hc.mono ?_
    rintro e W' ⟨rfl, h1, h2⟩
    have e2 : szTake n s (-1) (out, fr) x = (out.set x (s : Int), fr ++ [(x : Int)]) := if_pos hi
    have e3 : (rows ++ [fr]).set s ((rows ++ [fr]).getD s [] ++ [(x : Int)]) = rows ++ [fr ++ [(x : Int)]] := by
      rw [e1, List.set_append_right _ _ (by omega), hrl, Nat.sub_self]; rfl
    rw [e3] at h1
    refine ⟨rfl, ?_, hkeep, h2⟩
    rw [e2]; exact h1
  · have hi : ¬ szIs n (-1) out x = true := by rw [← hneg]; simpa using hn
    refine (impl_sizes.c.skip w po pb go co ro cb out (rows ++ [fr]) x s hxl hn W hM).mono ?_
    rintro e W' ⟨rfl, h1, h2⟩
    have e2 : szTake n s (-1) (out, fr) x = (out, fr) := if_neg hi
    refine ⟨rfl, ?_, hkeep, fun k _ => h2.cell (p := ⟨ro, k, none⟩) lro⟩
    rw [e2]; exact h1
/-- behind the append of an empty row -/
theorem impl_sizes.mem9 {w : World} {po pb go co ro cb ro8 cb8 nd : Nat} (hp : w.heap.size ≤ po ∧ w.heap.size ≤ pb ∧ po ≠ pb ∧ po ≠ go ∧ pb ≠ go) {out : List Int} {rows : List (List Int)} {wr w8 : World} (hM : impl_sizes.c.Mem w po pb go co ro cb out rows wr)
    (hs : Kd.S (Kd.slice 3 (Kd.int .i64)) 31 w8 w.heap.size (fun k => k ≠ go ∧ k ≠ po ∧ k ≠ pb) (.slice (some ⟨ro8, 0, none⟩) (rows ++ [[]]).length cb8) (rows ++ [[]])) (hb : Below w.heap.size w w8) (hg : (wr.drewN nd).grownBy w8 (Value.slice (some ⟨ro, 0, none⟩) rows.length cb).ownBlock) :
    impl_sizes.c.Mem w po pb go co ro8 cb8 out (rows ++ [[]]) (w8.setCell ⟨pb, 0, none⟩ (.slice (some ⟨ro8, 0, none⟩) (rows ++ [[]]).length cb8)) := by
  obtain ⟨h1, h2, h3, h4, h5⟩ := hM
  obtain ⟨p1, p2, p3, p4, p5⟩ := hp
  obtain ⟨q1, q2, q3⟩ := h4.elim (fun f h => h.1 ro (by simp [Value.ownBlock]))
  have hro : (Value.slice (some ⟨ro, 0, none⟩) rows.length cb).ownBlock = some ro := by simp [Value.ownBlock]
  rw [hro] at hg
  have b2 := (hg.block pb (blk_lt h2) (by simpa using q3.symm)).trans h2
  refine ⟨?_, ?_, ?_, ?_, ?_⟩
  · exact blk_far (p := ⟨pb, 0, none⟩) ((hg.block po (blk_lt h1) (by simpa using q2.symm)).trans h1) p3 _
  · exact blk_set b2 0 (.slice (some ⟨ro8, 0, none⟩) (rows ++ [[]]).length cb8)
  · exact Kd.R_far (p := ⟨pb, 0, none⟩) (Kd.R_grown (Kd.R_drewN h3 nd) hg (fun k hk => by rw [hk]; simpa using q1.symm)) (fun k hk => by rw [hk]; exact p5.symm) _
  · exact Kd.S_far (p := ⟨pb, 0, none⟩) hs (fun k hk => hk.2.2) _
  · exact hb.setCell (p := ⟨pb, 0, none⟩) p2 _
/-- the pairs that a round has taken -/
def impl_sizes.Pd (rows : List (List Int)) (s a i j : Nat) (f g : Int) : Prop :=
  (∃ a', 1 ≤ a' ∧ a' < a ∧ f ∈ rows.getD a' [] ∧ g ∈ rows.getD (s - a') []) ∨ (f ∈ (rows.getD a []).take i ∧ g ∈ rows.getD (s - a) []) ∨ ((rows.getD a [])[i]? = some f ∧ g ∈ (rows.getD (s - a) []).take j)
theorem impl_sizes.Pd_start {rows : List (List Int)} {s a : Nat} {f g : Int} (h : impl_sizes.Pd rows s a 0 0 f g) : ∃ a', 1 ≤ a' ∧ a' < a ∧ f ∈ rows.getD a' [] ∧ g ∈ rows.getD (s - a') [] := by
  rcases h with h | ⟨h, _⟩ | ⟨_, h⟩
  · exact h
  · simp at h
  · simp at h
theorem impl_sizes.mem_take {l : List Int} {j : Nat} {g : Int} (h : g ∈ l.take (j + 1)) : g ∈ l.take j ∨ l[j]? = some g := by
  rw [List.take_add_one, List.mem_append] at h
  refine h.imp id (fun h => ?_)
  cases hq : l[j]? with
  | none => rw [hq] at h; cases h
  | some q => rw [hq] at h; simp at h; rw [h]
theorem impl_sizes.Pd_j {rows : List (List Int)} {s a i j : Nat} {f g : Int} (h : impl_sizes.Pd rows s a i (j + 1) f g) : impl_sizes.Pd rows s a i j f g ∨ ((rows.getD a [])[i]? = some f ∧ (rows.getD (s - a) [])[j]? = some g) := by
  rcases h with h | h | ⟨h1, h2⟩
  · exact .inl (.inl h)
  · exact .inl (.inr (.inl h))
  · rcases impl_sizes.mem_take h2 with h3 | h3
    · exact .inl (.inr (.inr ⟨h1, h3⟩))
    · exact .inr ⟨h1, h3⟩
theorem impl_sizes.Pd_i {rows : List (List Int)} {s a i : Nat} {f g : Int} (h : impl_sizes.Pd rows s a (i + 1) 0 f g) : impl_sizes.Pd rows s a i (rows.getD (s - a) []).length f g := by
  rcases h with h | ⟨h1, h2⟩ | ⟨_, h2⟩
  · exact .inl h
  · rcases impl_sizes.mem_take h1 with h3 | h3
    · exact .inr (.inl ⟨h3, h2⟩)
    · exact .inr (.inr ⟨h3, by rw [List.take_length]; exact h2⟩)
  · simp at h2
theorem impl_sizes.Pd_a {rows : List (List Int)} {s a a' : Nat} {f g : Int} (h1 : 1 ≤ a') (h2 : a' < a + 1) (h3 : f ∈ rows.getD a' []) (h4 : g ∈ rows.getD (s - a') []) : impl_sizes.Pd rows s a (rows.getD a []).length 0 f g := by
  by_cases e : a' = a
  · subst e; exact .inr (.inl ⟨by rw [List.take_length]; exact h3, h4⟩)
  · exact .inl ⟨a', h1, by omega, h3, h4⟩
theorem impl_sizes.rd_get {l : List Int} {i : Nat} (h : i < l.length) : l[i]? = some (rd l (i : Int)) := by
  simp [rd, List.getD_eq_getElem?_getD, h]
/-- the sizes before the letters -/
def impl_sizes.zero (n : Nat) : List Int := ((List.replicate (szN n) (-1)).set 0 0).set (szN n - 1) 0
theorem impl_sizes.zero_ok {n : Nat} (hn : n ≤ 3) : SzI n 1 (-1) (impl_sizes.zero n) [] := by
  have h2 : 2 ≤ szN n := by
    have := Nat.pow_le_pow_right (show 0 < 2 by decide) (Nat.one_le_two_pow (n := n))
    simpa [szN] using this
  have hl : (impl_sizes.zero n).length = szN n := by simp [impl_sizes.zero]
  have hr : ∀ x, x < szN n → rd (impl_sizes.zero n) (x : Int) = if x + 1 = szN n then 0 else if x = 0 then 0 else -1 := fun x hx => by
    unfold impl_sizes.zero
    rw [szrd_set (by simp; omega), szrd_set (by simp; omega)]
    by_cases e : x + 1 = szN n
    · rw [if_pos (by omega), if_pos e]
    · rw [if_neg (by omega), if_neg e]
      by_cases e0 : x = 0
      · rw [if_pos e0, if_pos e0]
      · rw [if_neg e0, if_neg e0]
        simp [rd, List.getD_eq_getElem?_getD, hx]
  refine ⟨hl, fun x hx h0 => ?_, fun x hx h0 h1 => by omega, fun x hx h1 => ?_, fun x hx => (by cases hx), ?_⟩
  · rw [hr x hx]
    rcases (szT_zero hn hx).mp h0 with e | e
    · rw [if_pos e]; exact ite_self _
    · rw [if_pos e]
  · have hz := szT_zero hn hx
    left
    rw [hr x hx, if_neg (fun e => by have := hz.mpr (.inr e); omega), if_neg (fun e => by have := hz.mpr (.inl e); omega)]
  · have := cnt_le (szIs n (-1) (impl_sizes.zero n)) (szN n)
    unfold szU; simp; omega
set_option maxHeartbeats 8000000 in
set_option maxRecDepth 100000 in
theorem impl_sizes.nat (n : Nat) (hn : n ≤ 3) (w : World) :
    Calls Tryd.prog 12 #[.int .i64 (n : Int)] w fun e w' => ∃ v0_ : Value, e = .returned v0_ ∧ Kd.R (Kd.int .i64) 3 w' w.heap.size (fun _ => True) v0_ (szL n) ∧ Below w.heap.size w w' := by
  obtain ⟨N, hN⟩ : ∃ N, N = szN n := ⟨_, rfl⟩
  have hN4 : (N : Int) = 2 ∨ (N : Int) = 4 ∨ (N : Int) = 16 ∨ (N : Int) = 256 := by
    subst hN
    rcases n with _ | _ | _ | _ | n
    · exact .inl rfl
    · exact .inr (.inl rfl)
    · exact .inr (.inr (.inl rfl))
    · exact .inr (.inr (.inr rfl))
    · omega
  have e11 : wrap64 (2 ^ min (IntKind.u64.wrap (2 ^ n)).toNat 64) = (N : Int) := by
    subst hN
    rcases n with _ | _ | _ | _ | n
    · decide +kernel
    · decide +kernel
    · decide +kernel
    · decide +kernel
    · omega
  have hN1 : wrap64 ((N : Int) - 1) = ((N - 1 : Nat) : Int) := by rw [w64 (by omega) (by omega)]; omega
  have hNp : 2 ≤ N := by omega
  have hN256 : N ≤ 256 := by omega
  have E11 := Aside0.mk e11
  have hfld : ∀ (a b : Int) (W : World), (Instr.field 26 (.agg #[.int .i64 a, .int .i64 b]) 1).run Tryd.prog W = .ok (.int .i64 b) W := fun _ _ _ => by kernel_rfl
  obtain ⟨Wa, hWa⟩ : ∃ Wa, Wa = w.alloc (.cells #[.int .i64 (-1)] 3) := ⟨_, rfl⟩
  have hza : Wa.heap.size = w.heap.size + 1 := by rw [hWa]; simp
  have hBa : Below w.heap.size w Wa := by rw [hWa]; exact (Below.refl _ _).alloc (Nat.le_refl _) _
  have hCa : Kd.C (Kd.int .i64) Wa (some ⟨w.heap.size, 0, none⟩) 1 [-1] := by
    have h := Kd.R_of_own (h1 := fun _ => rfl) (ok := fun _ => True) (own_lit w w.heap.size 3 .i64 [-1] (Nat.le_refl _) (by simp)) (fun _ _ => trivial)
    have h2 := (Kd.R_reads' h).2.2
    rw [hWa]; exact h2
  have hRP : slices_Repeat_int_int.f [-1] (N : Int) = some (List.replicate N (-1)) := by
    unfold slices_Repeat_int_int.f
    rw [if_pos ⟨rfl, hN4⟩, Int.toNat_natCast]; rfl
  have CR := Aside0.mk (slices_Repeat_int_int.calls (some ⟨w.heap.size, 0, none⟩) 1 [-1] (N : Int) _ Wa hCa (by simp) hRP)
  have HWA := Aside0.mk hWa
  have HBA := Aside0.mk hBa
  have HZA := Aside0.mk hza
  have HNN := Aside0.mk hN
  clear e11 hN4 hCa hRP hza hBa hWa hN
  go_enter Tryd.func12, Tryd.ntmps12
  go_wp2_with (first | (go_at_call 22; rw [E11.out, ← HWA.out]; refine CR.out.mono ?_; rintro e w1 ⟨v0, rfl, hR, hb⟩; obtain ⟨gq, co, hv, hgb, hgl, _⟩ := Kd.R_form hR (by rw [List.length_replicate]; omega); rw [List.length_replicate] at hv; subst hv; have HR1 := Aside0.mk hR; have HB1 := Aside0.mk (HBA.out.trans (hb.mono HBA.out.size)); have HGB := Aside0.mk hgb; have HGL := Aside0.mk hgl; have HZ1 := Aside0.mk hb.size; clear hR hb hgb hgl))
  obtain ⟨po, hpo⟩ : ∃ po, po = w1.heap.size := ⟨_, rfl⟩
  obtain ⟨W3, hW3⟩ : ∃ W3, W3 = w1.alloc (.cells #[.slice (some ⟨gq, 0, none⟩) N co] 31) := ⟨_, rfl⟩
  rw [← hW3, ← hpo]
  have b3 : W3.heap[po]? = some (.cells #[.slice (some ⟨gq, 0, none⟩) N co] 31 (0, 0)) := by rw [hW3, hpo]; exact blk_new w1 _
  have hR3 : Kd.R (Kd.int .i64) 3 W3 Wa.heap.size (fun _ => True) (.slice (some ⟨gq, 0, none⟩) N co) (List.replicate N (-1)) := by rw [hW3]; exact Kd.R_alloc HR1.out _
  have hB3 : Below w.heap.size w W3 := by rw [hW3]; exact below_alloc HB1.out _
  have hz3 : W3.heap.size = po + 1 := by rw [hW3, hpo]; simp
  have c3 : W3.cell? ⟨po, 0, none⟩ = some (.slice (some ⟨gq, 0, none⟩) N co) := blk_cell b3 0
  have hrp : ∀ i : Nat, i < N → rdOf 0 (List.replicate N (-1)) (i : Int) = -1 := fun i hi => by simp [rdOf, List.getD_eq_getElem?_getD, hi]
  obtain ⟨a0, f0⟩ := Kd.R_celln 0 hR3 ((0 : Nat) : Int) (by omega) (by omega)
  obtain ⟨a1, f1⟩ := Kd.R_celln 0 hR3 ((N - 1 : Nat) : Int) (by omega) (by omega)
  rw [hrp 0 (by omega), Int.toNat_natCast] at a0
  rw [hrp (N - 1) (by omega), Int.toNat_natCast] at a1
  rw [Int.toNat_natCast] at f0 f1
  have t1 : ((N : Int) - 1).toNat = N - 1 := by omega
  have t2 : (0 : Int) ≤ (N : Int) - 1 := by omega
  have t3 : (N : Int) - 1 < (N : Int) := by omega
  have t4 : (0 : Int) < (N : Int) := by omega
  have hgp : gq < po := by have := HGL.out; omega
  have gne : gq ≠ po := by omega
  have HGP := Aside0.mk hgp
  clear hgp
  have HB3 := Aside0.mk hB3
  have HR3 := Aside0.mk hR3
  have HB4 := Aside0.mk b3
  have HZ3 := Aside0.mk hz3
  clear hB3 hR3 b3 hz3 hW3 hpo hrp HR1 HB1 HZ1
  go_region
  obtain ⟨W5, hW5⟩ : ∃ W5, W5 = ((W3.setCell ⟨gq, 0, none⟩ (.int .i64 0)).setCell ⟨gq, N - 1, none⟩ (.int .i64 0)).drew := ⟨_, rfl⟩
  rw [← hW5]
  have hgw : w.heap.size ≤ gq := by have h1 := HGB.out; have h2 := HZA.out; omega
  have b5 : W5.heap[po]? = some (.cells #[.slice (some ⟨gq, 0, none⟩) N co] 31 (0, 0)) := by
    rw [hW5]; exact blk_drew (blk_far (p := ⟨gq, N - 1, none⟩) (blk_far (p := ⟨gq, 0, none⟩) HB4.out gne.symm _) gne.symm _)
  have hB5 : Below w.heap.size w W5 := by
    rw [hW5]; exact below_drew ((HB3.out.setCell (p := ⟨gq, 0, none⟩) hgw _).setCell (p := ⟨gq, N - 1, none⟩) hgw _)
  have hz5 : W5.heap.size = po + 1 := by rw [hW5]; simpa [World.setCell] using HZ3.out
  have hR5 : Kd.R (Kd.int .i64) 3 W5 w.heap.size (fun k => k = gq) (.slice (some ⟨gq, 0, none⟩) N co) (impl_sizes.zero n) := by
    have h1 := Kd.R_putn HR3.out ((0 : Nat) : Int) 0
    have h2 := Kd.R_putn h1 ((N - 1 : Nat) : Int) 0
    rw [Int.toNat_natCast, Int.toNat_natCast] at h2
    have h3 := Kd.R_mono (Kd.R_tight rfl (Kd.R_lower (Kd.R_drew h2) (show w.heap.size ≤ Wa.heap.size by have := HZA.out; omega))) (ok' := fun k => k = gq) (fun k hk => by simpa [Value.ownBlock] using hk)
    rw [hW5]; unfold impl_sizes.zero; rw [← HNN.out]; exact h3
  have hwp : w.heap.size ≤ po := by have h1 := HGP.out; omega
  obtain ⟨W7, hW7⟩ : ∃ W7, W7 = (W5.alloc (.cells #[.slice none 0 0, .slice none 0 0] 31)).alloc (.cells #[.slice (some ⟨po + 1, 0, none⟩) 2 2] 39) := ⟨_, rfl⟩
  have hM7 : impl_sizes.c.Mem w po (po + 1 + 1) gq co (po + 1) 2 (impl_sizes.zero n) [[], []] W7 := by
    have hl : (impl_sizes.zero n).length = N := by rw [HNN.out]; simp [impl_sizes.zero]
    unfold impl_sizes.c.Mem
    rw [hl, hW7]
    refine ⟨blk_alloc (blk_alloc b5 _) _, ?_, Kd.R_alloc (Kd.R_alloc hR5 _) _, ?_, below_alloc (below_alloc hB5 _) _⟩
    · have := blk_new (W5.alloc (.cells #[.slice none 0 0, .slice none 0 0] 31)) (.cells #[.slice (some ⟨po + 1, 0, none⟩) 2 2] 39)
      simpa [hz5] using this
    · have := rows_two (ti := 3) (ts := 31) (base := w.heap.size) (W := W5) (ok0 := fun _ => False) (ok1 := fun _ => False) (ok := fun k => k ≠ gq ∧ k ≠ po ∧ k ≠ po + 1 + 1) (Kd.R_nil _ _ _ _ _) (Kd.R_nil _ _ _ _ _) (fun k h => h.elim) (fun k h => h.elim) (fun k h => h.elim) (by have := HGP.out; rw [hz5]; refine ⟨?_, ?_, ?_⟩ <;> omega) (by omega)
      rw [hz5] at this
      exact Kd.S_alloc this _
  have HM7 := Aside0.mk hM7
  have HW7 := Aside0.mk hW7
  have c5 : W5.cell? ⟨po, 0, none⟩ = some (.slice (some ⟨gq, 0, none⟩) N co) := blk_cell b5 0
  have HWP := Aside0.mk hwp
  clear hM7 hW7 hB5 hR5 b5 hW5 c3 a0 f0 a1 f1 HB3 HR3 HB4 hgw hwp
  go_wp2
  rw [← HW7.out]
  have hpp : Aside0 (w.heap.size ≤ po ∧ w.heap.size ≤ po + 1 + 1 ∧ po ≠ po + 1 + 1 ∧ po ≠ gq ∧ po + 1 + 1 ≠ gq) := ⟨by have := HWP.out; refine ⟨by omega, by omega, by omega, gne.symm, ?_⟩; have := HGP.out; omega⟩
  generalize po + 1 + 1 = pb at *
  generalize po + 1 = ro0 at *
  clear c5
  go_loopg [31] n (fun gg v31 wr => ∃ (i : Nat) (out fr : List Int), i ≤ n ∧ n - i ≤ gg ∧ v31 = .int .i64 (i : Int) ∧ Aside0 (impl_sizes.c.Mem w po pb gq co ro0 2 out [[], fr] wr) ∧ Aside0 (SzI n 1 (-1) out fr) ∧ Aside0 (∀ j, j < i → szIs n (-1) out (szVar n j) = false ∧ szIs n (-1) out (szN n - 1 - szVar n j) = false))
  case atStart => exact ⟨0, impl_sizes.zero n, [], Nat.zero_le _, by omega, rfl, HM7, ⟨impl_sizes.zero_ok hn⟩, ⟨fun j hj => by omega⟩⟩
  case round =>
    clear HM7
    obtain ⟨i, out, fr, hi, hg, rfl, HM, HI, HV⟩ := hrel
    by_cases hlt : i < n
    · have hltz : (i : Int) < (n : Int) := by omega
      obtain ⟨v1, v2, v3, v4⟩ := szVar_ok hn hlt
      have hv5 : szN n - 1 - szVar n i < szN n := by have := szN_pos (n := n); omega
      have hNle : szN n ≤ 256 := by rw [← HNN.out]; exact hN256
      have T1 := Aside0.mk (fun W (h : impl_sizes.c.Mem w po pb gq co ro0 2 out ([[]] ++ [fr]) W) => impl_sizes.tk (n := n) (s := 1) (by omega) (rows := [[]]) rfl v1 (by omega) hNle hpp.out h HI.out)
      have T2 := Aside0.mk (fun W (h : impl_sizes.c.Mem w po pb gq co ro0 2 (szTake n 1 (-1) (out, fr) (szVar n i)).1 ([[]] ++ [(szTake n 1 (-1) (out, fr) (szVar n i)).2]) W) => impl_sizes.tk (n := n) (s := 1) (by omega) (rows := [[]]) rfl hv5 (by omega) hNle hpp.out h (szTake_keep (u := -1) (by omega) (by omega) (o := (out, fr)) HI.out v1 (by omega)))
      have HV2 := Aside0.mk (szLet_step (u := -1) hn (by omega) (o := (out, fr)) HI.out.len hlt HV.out)
      have hvar : impl_variable.f (n : Int) (i : Int) = some ((n : Int), ((szVar n i : Nat) : Int)) := by
        unfold impl_variable.f
        rw [if_pos (by omega)]; simp
      have CV := Aside0.mk (fun W => impl_variable.calls (n : Int) (i : Int) _ _ W hvar)
      have ex : Go.bits .xor .i64 ((szVar n i : Nat) : Int) ((N : Int) - 1) = ((szN n - 1 - szVar n i : Nat) : Int) := by
        rw [← v4, ← HNN.out, show (N : Int) - 1 = ((N - 1 : Nat) : Int) by omega]
        exact xor_nat (by rw [← HNN.out] at v1; omega) (by omega)
      clear hvar v2 v3 v4 v1 hv5
      generalize szVar n i = x at *
      generalize szN n - 1 - x = y at *
      go_wp2_with (first | (go_at_call 20; refine (CV.out _).mono ?_; rintro e w4 ⟨rfl, hb4⟩; have HM4 := Aside0.mk (HM.out.below hb4); clear hb4) | (go_at_call 23; first | (refine (T2.out _ HM5.out).mono ?_; rintro e w6 ⟨rfl, hm6, hi6, _⟩; have HM6 := Aside0.mk hm6; have HI6 := Aside0.mk hi6; clear hm6 hi6) | (refine (T1.out _ HM4.out).mono ?_; rintro e w5 ⟨rfl, hm5, _, _⟩; have HM5 := Aside0.mk hm5; clear hm5)))
      go_roundg (n - (i + 1))
      case measure => omega
      case rel => exact ⟨i + 1, _, _, by omega, by omega, by go_num, HM6, HI6, HV2⟩
    · have hin : i = n := by omega
      have hgo : decide ((i : Int) < (n : Int)) = false := decide_eq_false (by omega)
      have hgo2 : decide (i < n) = false := decide_eq_false (by omega)
      have hdone := szLet_done (u := -1) hn (out := out) (fun j hj => HV.out j (by omega))
      have HI2 := Aside0.mk (HI.out.next (Nat.le_refl _) hdone)
      have HR2 := Aside0.mk (SzR.push (u := -1) (by omega) (Nat.le_refl _) (SzR.one n) HI.out hdone)
      clear hdone HI HV hin hlt hi hg
      clear CR HWA HBA HZA HGB HGL t1 t2 t3 t4 gne HGP HWP HZ3 hz5 HW7 E11 hN1 hfld
      go_wp2
      go_loopg [9] 12 (fun gg v9 wr => ∃ (s : Nat) (out : List Int) (rows : List (List Int)) (ro cb : Nat), 2 ≤ s ∧ s ≤ 11 ∧ 12 - s ≤ gg ∧ v9 = .int .i64 (s : Int) ∧ Aside0 (impl_sizes.c.Mem w po pb gq co ro cb out rows wr) ∧ Aside0 (SzI n s (-1) out []) ∧ Aside0 (SzR n s rows))
      case atStart => exact ⟨2, out, [[], fr], ro0, 2, Nat.le_refl _, by omega, by omega, rfl, HM, HI2, HR2⟩
      case round =>
        clear HM HI2 HR2
        obtain ⟨s, out, rows, ro, cb, hs2, hs11, hg, rfl, HM, HI, HR⟩ := hrel
        have hlen : out.length = N := by rw [HI.out.len, HNN.out]
        obtain ⟨k, b, hf, hbb⟩ := impl_sizes.has out (-1) (by omega)
        have CC := Aside0.mk (fun W hc => slices_Contains_int_int.calls k (some ⟨gq, 0, none⟩) co out (-1) b W hc (Kd.R_reads' HM.out.2.2.1).2.1 hf)
        have CI := Aside0.mk (Kd.R_reads' HM.out.2.2.1).2.2
        have c0 : wr.cell? ⟨po, 0, none⟩ = some (.slice (some ⟨gq, 0, none⟩) out.length co) := blk_cell HM.out.1 0
        have HBB := Aside0.mk hbb
        have HLN := Aside0.mk hlen
        clear hf hbb hlen
        cases b with
        | false =>
          go_wp2_with (first | (go_at_call 24; refine (CC.out _ CI.out).mono ?_; rintro e w4 ⟨rfl, ⟨nd, rfl⟩⟩))
          go_ret
          have hfin : out = szL n := HI.out.full (fun x hx => by
            have h := HBB.out
            rw [szIs, Bool.and_eq_false_iff]
            right
            rw [beq_eq_false_iff_ne]
            intro e
            have := h.mpr ⟨x, by rw [HLN.out, HNN.out]; exact hx, e⟩
            cases this)
          rw [← hfin]
          exact ⟨_, rfl, Kd.R_mono (Kd.R_drewN HM.out.2.2.1 _) (fun _ _ => trivial), pw_below_drewN HM.out.2.2.2.2 _⟩
        | true =>
          have hs10 : s ≤ 10 := by
            rcases Nat.lt_or_ge 10 s with h | h
            · obtain ⟨x, h1, h2⟩ := HBB.out.mp rfl
              have hx : x < szN n := by rw [← HI.out.len]; exact h1
              have h3 := HI.out.last hn h (by omega) x hx
              rw [szIs, h2, beq_self_eq_true, Bool.and_true, decide_eq_false_iff_not, Classical.not_not] at h3
              have := HI.out.con x hx h3
              omega
            · exact h
          have q0 : wr.cell? ⟨pb, 0, none⟩ = some (.slice (some ⟨ro, 0, none⟩) rows.length cb) := blk_cell HM.out.2.1 0
          have z0 := blk_frozen HM.out.2.1 0
          have hfr : ∀ k, wr.heap.size ≤ k → k ≠ gq ∧ k ≠ po ∧ k ≠ pb := fun k hk => by
            have h1 := Kd.R_lt HM.out.2.2.1 gq (by simp [Value.ownBlock])
            have h2 := blk_lt HM.out.1
            have h3 := blk_lt HM.out.2.1
            refine ⟨?_, ?_, ?_⟩ <;> omega
          have HFR := Aside0.mk hfr
          have HRL := Aside0.mk HR.out.len
          clear hfr
          go_wp2_with (first | (go_at_call 24; refine (CC.out _ CI.out).mono ?_; rintro e w4 ⟨rfl, ⟨nd, rfl⟩⟩) | ((with_reducible refine gate_builtin (b := .append) (xs := #[.tmp 51, .tmp 52]) rfl ?_); at_builtin; refine Kd.S_append (Kd.slice 3 (Kd.int .i64)) (w0 := w) (W := wr.drewN nd) w.heap.size rfl (.tmp 51) (.tmp 52) 39 31 (.slice none 0 0) 24 rfl Tryd.underlying39 info31 rfl (by decide) (by omega) (.slice (some ⟨ro, 0, none⟩) rows.length cb) rows [] [.slice none 0 0] (fun k => k ≠ gq ∧ k ≠ po ∧ k ≠ pb) (fun _ => False) rfl rfl ⟨_, rfl, Kd.R_nil _ _ _ _ _⟩ (fun _ h => h.elim) HFR.out (Kd.S_mono (Kd.S_drewN HM.out.2.2.2.1 _) (fun _ h => ⟨h, fun h => h⟩)) (pw_below_drewN HM.out.2.2.2.2 _) HM.out.2.2.2.2.size (by have := HRL.out; omega) ?_; intro v8 w8 hs8 hb8 hg8 hat8; obtain ⟨ro8, cb8, hv8, _, hl8, _⟩ := Kd.S_form hs8 (by simp); subst hv8; have q8 : w8.cell? ⟨pb, 0, none⟩ = some (.slice (some ⟨ro, 0, none⟩) rows.length cb) := hg8.cell q0 (fun e => by have h := HM.out.2.2.2.1.elim (fun f h => h.1 ro (by simp [Value.ownBlock])); simp [Value.ownBlock] at e; exact h.2.2 e.symm); have z8 : w8.frozen? ⟨pb, 0, none⟩ = false := (hg8.frozen_far _ (blk_lt HM.out.2.1) (fun e => by have h := HM.out.2.2.2.1.elim (fun f h => h.1 ro (by simp [Value.ownBlock])); simp [Value.ownBlock] at e; exact h.2.2 e.symm)).trans z0; have HM9 := Aside0.mk (impl_sizes.mem9 hpp.out HM.out hs8 hb8 hg8); clear hs8 hb8 hg8 hat8))
          have HI9 := Aside0.mk HI.out
          clear q8 z8 q0 z0 c0 hl8 hgo hgo2
          go_loopg [10] 12 (fun gg v10 wr => ∃ (a : Nat) (out fr : List Int), 1 ≤ a ∧ a ≤ s ∧ 12 - a ≤ gg ∧ v10 = .int .i64 (a : Int) ∧ Aside0 (impl_sizes.c.Mem w po pb gq co ro8 cb8 out (rows ++ [fr]) wr) ∧ Aside0 (SzI n s (-1) out fr) ∧ Aside0 (∀ a', 1 ≤ a' → a' < a → ∀ f, f ∈ rows.getD a' [] → ∀ g, g ∈ rows.getD (s - a') [] → szCov n (-1) out f g))
          case atStart => exact ⟨1, out, [], Nat.le_refl _, by omega, by omega, rfl, ⟨by first | exact HM9.out | simpa only [List.length_append, List.length_cons, List.length_nil] using HM9.out⟩, HI9, ⟨fun a' h1 h2 => by omega⟩⟩
          case round =>
            clear HM9 HI9 HM HI HBB HFR CC CI HLN
            obtain ⟨a, out, fr, ha1, has, hg3, rfl, HM, HI, HC⟩ := hrel
            by_cases hlt : 2 * a ≤ s
            · have hltz : 2 * (a : Int) ≤ (s : Int) := by omega
              have hrl := HRL.out
              have hra : (rows ++ [fr]).getD a [] = rows.getD a [] := by rw [szgetD_snoc, if_pos (by omega)]
              obtain ⟨A1, cA, k1, _, _, _⟩ := rows_cell HM.out.2.2.2.1 a (by rw [List.length_append, hrl]; simp; omega)
              rw [hra] at k1
              have q0 : wr.cell? ⟨pb, 0, none⟩ = some (.slice (some ⟨ro8, 0, none⟩) (rows ++ [fr]).length cb8) := blk_cell HM.out.2.1 0
              have ha3 : (a : Int) < (rows.length : Int) + 1 := by omega
              have HC4 := Aside0.mk (fun f g (h : impl_sizes.Pd rows s a 0 0 f g) => by obtain ⟨a', b1, b2, b3, b4⟩ := impl_sizes.Pd_start h; exact HC.out a' b1 b2 f b3 g b4)
              clear hrl hra HC
              obtain ⟨la, hla⟩ : ∃ la, la = (rows.getD a []).length := ⟨_, rfl⟩
              rw [← hla] at k1
              have K1 := Aside0.mk k1
              have hla9 : la ≤ 256 := by have h1 := HR.out.row a (by omega); rw [← hla, ← HNN.out] at h1; omega
              have HLA := Aside0.mk hla
              clear hla
              go_wp2
              go_loopg [65] la (fun gg v65 wr => ∃ (i : Nat) (out fr : List Int), i ≤ la ∧ la - i ≤ gg ∧ v65 = .int .i64 (i : Int) ∧ Aside0 (impl_sizes.c.Mem w po pb gq co ro8 cb8 out (rows ++ [fr]) wr) ∧ Aside0 (SzI n s (-1) out fr) ∧ Aside0 (∀ f g, impl_sizes.Pd rows s a i 0 f g → szCov n (-1) out f g) ∧ Aside0 (wr.cell? ⟨ro8, a, none⟩ = some (.slice A1 la cA)))
              case atStart => exact ⟨0, out, fr, Nat.zero_le _, by omega, rfl, HM, HI, HC4, K1⟩
              case round =>
                clear HM HI HC4 K1 k1 q0
                obtain ⟨i, out, fr, hi, hg4, rfl, HM, HI, HC, K1⟩ := hrel
                by_cases hlt4 : i < la
                · have hltz4 : (i : Int) < (la : Int) := by omega
                  have hrl := HRL.out
                  have hra : (rows ++ [fr]).getD a [] = rows.getD a [] := by rw [szgetD_snoc, if_pos (by omega)]
                  have hrb : (rows ++ [fr]).getD (s - a) [] = rows.getD (s - a) [] := by rw [szgetD_snoc, if_pos (by omega)]
                  obtain ⟨g1, d1, k2, k3⟩ := rows_elem HM.out.2.2.2.1 a (by rw [List.length_append, hrl]; simp; omega) i (by rw [hra, ← HLA.out]; exact hlt4)
                  rw [hra, ← HLA.out] at k2
                  rw [hra] at k3
                  have hA1 := K1.out.symm.trans k2
                  injection hA1 with hA1
                  injection hA1 with hA1 _ hcA
                  subst hA1
                  subst hcA
                  obtain ⟨B1, cB, k4, _, _, _⟩ := rows_cell HM.out.2.2.2.1 (s - a) (by rw [List.length_append, hrl]; simp; omega)
                  rw [hrb] at k4
                  have hri := impl_sizes.rd_get (l := rows.getD a []) (i := i) (by rw [← HLA.out]; exact hlt4)
                  obtain ⟨_, p, hp, hpe, hpT⟩ := HR.out.mem a (rd (rows.getD a []) (i : Int)) (by omega) (List.mem_of_getElem? hri)
                  rw [hpe] at k3 hri
                  have q0 : wr.cell? ⟨pb, 0, none⟩ = some (.slice (some ⟨ro8, 0, none⟩) (rows ++ [fr]).length cb8) := blk_cell HM.out.2.1 0
                  obtain ⟨lb, hlb⟩ : ∃ lb, lb = (rows.getD (s - a) []).length := ⟨_, rfl⟩
                  rw [← hlb] at k4
                  have e4 : ((s : Int) - (a : Int)).toNat = s - a := by omega
                  have e5 : (0 : Int) ≤ (s : Int) - (a : Int) := by omega
                  have e6 : (s : Int) - (a : Int) < (rows.length : Int) + 1 := by omega
                  have e7 : ((s - a : Nat) : Int) < (rows.length : Int) + 1 := by omega
                  have K2 := Aside0.mk k4
                  have hlb9 : lb ≤ 256 := by have h1 := HR.out.row (s - a) (by omega); rw [← hlb, ← HNN.out] at h1; omega
                  have HLB := Aside0.mk hlb
                  have HP := Aside0.mk (And.intro hp (And.intro hpT hri))
                  clear hrl hra hrb hlb hp hpe hpT hri
                  go_wp2
                  clear e4 e5 e6 e7
                  have HC5 := Aside0.mk HC.out
                  go_loopg [76] lb (fun gg v76 wr => ∃ (j : Nat) (out fr : List Int), j ≤ lb ∧ lb - j ≤ gg ∧ v76 = .int .i64 (j : Int) ∧ Aside0 (impl_sizes.c.Mem w po pb gq co ro8 cb8 out (rows ++ [fr]) wr) ∧ Aside0 (SzI n s (-1) out fr) ∧ Aside0 (∀ f g, impl_sizes.Pd rows s a i j f g → szCov n (-1) out f g) ∧ Aside0 (wr.cell? ⟨ro8, a, none⟩ = some (.slice (some ⟨g1, 0, none⟩) la cA)) ∧ Aside0 (wr.cell? ⟨ro8, s - a, none⟩ = some (.slice B1 lb cB)))
                  case atStart => exact ⟨0, out, fr, Nat.zero_le _, by omega, rfl, HM, HI, HC5, K1, K2⟩
                  case round =>
                    clear HM HI HC HC5 K1 K2 k2 k3 k4 q0
                    obtain ⟨j, out, fr, hj, hg5, rfl, HM, HI, HC, K1, K2⟩ := hrel
                    by_cases hlt5 : j < lb
                    · have hltz5 : (j : Int) < (lb : Int) := by omega
                      have hrl := HRL.out
                      have hrb : (rows ++ [fr]).getD (s - a) [] = rows.getD (s - a) [] := by rw [szgetD_snoc, if_pos (by omega)]
                      obtain ⟨g2, d2, k2, k3⟩ := rows_elem HM.out.2.2.2.1 (s - a) (by rw [List.length_append, hrl]; simp; omega) j (by rw [hrb, ← HLB.out]; exact hlt5)
                      rw [hrb, ← HLB.out] at k2
                      rw [hrb] at k3
                      have hB1 := K2.out.symm.trans k2
                      injection hB1 with hB1
                      injection hB1 with hB1 _ hcB
                      subst hB1
                      subst hcB
                      have hrj := impl_sizes.rd_get (l := rows.getD (s - a) []) (i := j) (by rw [← HLB.out]; exact hlt5)
                      obtain ⟨_, q, hq, hqe, hqT⟩ := HR.out.mem (s - a) (rd (rows.getD (s - a) []) (j : Int)) (by omega) (List.mem_of_getElem? hrj)
                      rw [hqe] at k3 hrj
                      obtain ⟨hp, hpT, hri⟩ := HP.out
                      obtain ⟨t1, t2⟩ := szT_pair hn hp hq (by omega) (by omega)
                      have l1 : p &&& q < szN n := Nat.lt_of_le_of_lt Nat.and_le_left hp
                      have l2 : p ||| q < szN n := Nat.or_lt_two_pow hp hq
                      have hNle : szN n ≤ 256 := by rw [← HNN.out]; exact hN256
                      have T1 := Aside0.mk (fun W (h : impl_sizes.c.Mem w po pb gq co ro8 cb8 out (rows ++ [fr]) W) => impl_sizes.tk (n := n) (s := s) (by omega) hrl l1 (by omega) hNle hpp.out h HI.out)
                      have T2 := Aside0.mk (fun W (h : impl_sizes.c.Mem w po pb gq co ro8 cb8 (szTake n s (-1) (out, fr) (p &&& q)).1 (rows ++ [(szTake n s (-1) (out, fr) (p &&& q)).2]) W) => impl_sizes.tk (n := n) (s := s) (by omega) hrl l2 (by omega) hNle hpp.out h (szTake_keep (u := -1) (by omega) (by omega) (o := (out, fr)) HI.out l1 (by omega)))
                      obtain ⟨cv1, cv2⟩ := szPair_cov (u := -1) (s := s) (by omega) (by omega) (o := (out, fr)) HI.out.len hp hq
                      have HC2 : Aside0 (∀ f g, impl_sizes.Pd rows s a i (j + 1) f g → szCov n (-1) (szPair n s (-1) (out, fr) p q).1 f g) := ⟨fun f g h => by
                        rcases impl_sizes.Pd_j h with h | ⟨h1, h2⟩
                        · exact cv2 f g (HC.out f g h)
                        · have e1 : f = (p : Int) := by rw [hri] at h1; exact (Option.some.inj h1).symm
                          have e2 : g = (q : Int) := by rw [hrj] at h2; exact (Option.some.inj h2).symm
                          rw [e1, e2]; exact cv1⟩
                      have ea : Go.bits .and .i64 (p : Int) (q : Int) = ((p &&& q : Nat) : Int) := and_nat (by omega) (by omega)
                      have eo : Go.bits .or .i64 (p : Int) (q : Int) = ((p ||| q : Nat) : Int) := or_nat (by omega) (by omega)
                      have hsa : a ≠ s ∧ s - a ≠ s := ⟨by omega, by omega⟩
                      have HSA := Aside0.mk hsa
                      unfold szPair at HC2
                      clear cv1 cv2 hrl hrb hrj hq hqe hqT hp hpT hri t1 t2 l1 l2 hNle hsa
                      generalize p &&& q = pa at *
                      generalize p ||| q = pr at *
                      go_wp2_with (first | (go_at_call 23; first | (refine (T2.out _ HM5.out).mono ?_; rintro e w6 ⟨rfl, hm6, hi6, hk6⟩; have HM6 := Aside0.mk hm6; have HI6 := Aside0.mk hi6; have HK6 := Aside0.mk hk6; clear hm6 hi6 hk6) | (refine (T1.out _ HM.out).mono ?_; rintro e w5 ⟨rfl, hm5, _, hk5⟩; have HM5 := Aside0.mk hm5; have HK5 := Aside0.mk hk5; clear hm5 hk5)))
                      clear ea eo
                      go_roundg (lb - (j + 1))
                      case measure => omega
                      case rel => exact ⟨j + 1, _, _, by omega, by omega, by push_cast; rfl, HM6, HI6, HC2, ⟨((HK6.out a HSA.out.1).trans (HK5.out a HSA.out.1)).trans K1.out⟩, ⟨((HK6.out _ HSA.out.2).trans (HK5.out _ HSA.out.2)).trans K2.out⟩⟩
                    · have hgo5 : decide ((j : Int) < (lb : Int)) = false := decide_eq_false (by omega)
                      have hgo6 : decide (j < lb) = false := decide_eq_false (by omega)
                      have hjl : j = lb := by omega
                      go_wp2
                      clear hgo5 hgo6
                      go_roundg (la - (i + 1))
                      case measure => omega
                      case rel => exact ⟨i + 1, out, fr, by omega, by omega, by push_cast; rfl, HM, HI, ⟨fun f g h => HC.out f g (by rw [hjl, HLB.out]; exact impl_sizes.Pd_i h)⟩, K1⟩
                · have hgo5 : decide ((i : Int) < (la : Int)) = false := decide_eq_false (by omega)
                  have hgo6 : decide (i < la) = false := decide_eq_false (by omega)
                  have hil : i = la := by omega
                  go_wp2
                  clear hgo5 hgo6
                  go_roundg (12 - (a + 1))
                  case measure => omega
                  case rel => exact ⟨a + 1, out, fr, by omega, by omega, by omega, by push_cast; rfl, HM, HI, ⟨fun a' h1 h2 f h3 g h4 => HC.out f g (by rw [hil, HLA.out]; exact impl_sizes.Pd_a h1 h2 h3 h4)⟩⟩
            · have hgo3 : decide (2 * (a : Int) ≤ (s : Int)) = false := decide_eq_false (by omega)
              have hgo4 : decide (2 * a ≤ s) = false := decide_eq_false (by omega)
              have hdone := szCov_done (u := -1) hn hs2 HR.out (out := out) (fun a' h1 h2 => HC.out a' h1 (by omega))
              have HI3 := Aside0.mk (HI.out.next (by omega) hdone)
              have HR3 := Aside0.mk (SzR.push (u := -1) (by omega) (by omega) HR.out HI.out hdone)
              clear hdone
              go_wp2
              clear hgo3 hgo4
              go_roundg (12 - (s + 1))
              case measure => omega
              case rel => exact ⟨s + 1, out, rows ++ [fr], ro8, cb8, by omega, by omega, by omega, by push_cast; rfl, HM, HI3, HR3⟩
theorem impl_sizes.calls (a0 : Int) (r : List Int) (w : World) (h : impl_sizes.f a0 = some r) :
    Calls Tryd.prog 12 #[.int .i64 a0] w fun e w' => ∃ v0_ : Value, e = .returned v0_ ∧ Kd.R (Kd.int .i64) 3 w' w.heap.size (fun _ => True) v0_ r ∧ Below w.heap.size w w' := by
  unfold impl_sizes.f at h
  by_cases hc : 0 ≤ a0 ∧ a0 ≤ 3
  · rw [if_pos hc] at h
    obtain ⟨n, rfl⟩ := nat_of hc.1
    rw [Int.toNat_natCast] at h
    rw [← Option.some.inj h]
    exact impl_sizes.nat n (by omega) w
  · rw [if_neg hc] at h; cases h


end Go.Proofs.YtmdpjmcleckedaaDoor.Print
