/- Functions of the given program as plain Lean functions, with proofs that their calls compute them, or lemmas on these. Laid by a program of this repo for the seat YtmdpjmcleckedaaDoor; Lean checks it. -/
import Derived.Test.YtmdpjmcleckedaaDoorKExactSmallestFormula0
import Derived.Test.YtmdpjmcleckedaaDoorKExactSmallestFormula13
import Derived.Test.YtmdpjmcleckedaaDoorM15
import Derived.Laws.IdiomCopy
import Derived.BigRegion
namespace Go.Proofs.YtmdpjmcleckedaaDoor.Print
open Go.RowKit Go.Proofs.YtmdpjmcleckedaaDoorW.PrintWords Go.Proofs.YtmdpjmcleckedaaDoorW.PrintLast Go.Proofs.YtmdpjmcleckedaaDoorW.PrintMore
attribute [local go_sem] max2_int min2_int max_two min_two max_three min_three max_four min_four   -- for this text's walks alone
set_option linter.unusedVariables false
set_option linter.unusedSimpArgs false

--OWNPART
/-! ### slices_Repeat_int_int: function 22 -/
--IMPORT M15
--IMPORT Derived.Laws.IdiomCopy
--IMPORT Derived.BigRegion
open Go.Proofs.YtmdpjmcleckedaaDoor.M
def slices_Repeat_int_int.f (l0 : List Int) (a1 : Int) : Option (List Int) :=
  if l0.length = 1 ∧ (a1 = 2 ∨ a1 = 4 ∨ a1 = 16 ∨ a1 = 256) then some (List.replicate a1.toNat (rd l0 0)) else none
/-- a run of cells of a row of one's own is written -/
theorem slices_Repeat_int_int.puts {e base g n cap : Nat} {ok : Nat → Prop} : ∀ (vs : List Int) (o : Nat) (W : World) (xs : List Int), (Kd.int .i64).R e W base ok (.slice (some ⟨g, 0, none⟩) n cap) xs → o + vs.length ≤ xs.length →
    (Kd.int .i64).R e (W.setCells g o (vs.map (Value.int .i64))) base ok (.slice (some ⟨g, 0, none⟩) n cap) (xs.take o ++ vs ++ xs.drop (o + vs.length))
  | [], o, W, xs, h, hl => by simpa [World.setCells] using h
  | v :: r, o, W, xs, h, hl => by
    have h1 := Kd.R_putn h (o : Int) v
    rw [Int.toNat_natCast] at h1
    have h2 := slices_Repeat_int_int.puts r (o + 1) _ _ h1 (by rw [List.length_set]; simp at hl; omega)
    rw [List.map_cons, World.setCells]
    have e1 : (xs.set o v).take (o + 1) ++ r ++ (xs.set o v).drop (o + 1 + r.length) = xs.take o ++ (v :: r) ++ xs.drop (o + (v :: r).length) := by
      simp only [List.length_cons] at hl ⊢
      rw [List.drop_set_of_lt (by omega), List.take_add_one, List.take_set_of_le (by omega)]
      simp [show o < xs.length by omega, show o + 1 + r.length = o + (r.length + 1) by omega]
    rw [← e1]
    exact h2
theorem slices_Repeat_int_int.mul (N : Int) (h : N = 2 ∨ N = 4 ∨ N = 16 ∨ N = 256) : bits_Mul.f 1 N = some (0, N) := by
  rcases h with rfl | rfl | rfl | rfl <;> decide +kernel
theorem slices_Repeat_int_int.size1 : (Tryd.prog.info? 3).map (·.size) = some 1 := by
  obtain ⟨i, hi, he⟩ := Option.map_eq_some_iff.1 info3
  simp only [Prod.mk.injEq] at he
  rw [hi, Option.map_some, he.2.1]
/-- what a copy into a row of one's own does -/
theorem slices_Repeat_int_int.cp {base g n cap : Nat} {xs : List Int} {W : World} (h : (Kd.int .i64).R 3 W base (fun _ => True) (.slice (some ⟨g, 0, none⟩) n cap) xs) (ys : List Int) (o dl dc : Nat) (a : Addr) (sl sc : Nat) (hk : ys.length = Nat.min sl dl) (ho : o + dl ≤ xs.length)
    (hs : ∀ j, j < ys.length → W.cell? (a.add j) = some (.int .i64 (ys.getD j 0))) :
    (Builtin.copy_ #[31, 31] 3 #[.slice (some ⟨g, o, none⟩) dl dc, .slice (some a) sl sc]).run Tryd.prog W = .ok (.int .i64 (ys.length : Int)) (W.setCells g o (ys.map (Value.int .i64))) ∧
      (Kd.int .i64).R 3 (W.setCells g o (ys.map (Value.int .i64))) base (fun _ => True) (.slice (some ⟨g, 0, none⟩) n cap) (xs.take o ++ ys ++ xs.drop (o + ys.length)) := by
  have hkd : ys.length ≤ dl := by rw [hk]; exact Nat.min_le_right _ _
  have hn := (Kd.R_reads' h).1
  refine ⟨?_, slices_Repeat_int_int.puts ys o W xs h (by omega)⟩
  have hr := Go.run_copy_cells (P := Tryd.prog) W 31 31 3 3 g o dl dc a sl sc (ys.map (Value.int .i64)) Tryd.underlying31 slices_Repeat_int_int.size1 (by rw [List.length_map]; exact hk) ?_ ?_ ?_ ?_
  · rw [hr, List.length_map]; rfl
  · intro j v hv
    rw [List.getElem?_map] at hv
    obtain ⟨q, hq, rfl⟩ := Option.map_eq_some_iff.1 hv
    have hj := (List.getElem?_eq_some_iff.1 hq).1
    rw [hs j hj, List.getD_eq_getElem?_getD, hq]; rfl
  · intro j hj
    rw [List.length_map] at hj
    have := (Kd.R_celln 0 h ((o + j : Nat) : Int) (by omega) (by omega)).1
    rw [Int.toNat_natCast] at this
    rw [this]; rfl
  · intro j hj
    rw [List.length_map] at hj
    have := (Kd.R_celln 0 h ((o + j : Nat) : Int) (by omega) (by omega)).2
    rwa [Int.toNat_natCast] at this
  · intro v hv
    obtain ⟨q, _, rfl⟩ := List.mem_map.1 hv
    rfl
theorem slices_Repeat_int_int.far {B g : Nat} {w W : World} (h : Below B w W) (hg : B ≤ g) : ∀ (vs : List Value) (o : Nat), Below B w (W.setCells g o vs)
  | vs, o => ⟨((setCells_same g vs o W).1).trans h.os, ((setCells_same g vs o W).2.1).trans h.tape, ((setCells_same g vs o W).2.2.1).trans h.output, by rw [(setCells_same g vs o W).2.2.2]; exact h.size, fun k hk => (setCells_far vs o k (by omega)).trans (h.block k hk)⟩
/-- m cells told so far -/
def slices_Repeat_int_int.L (y : Int) (N m : Nat) : List Int := List.replicate m y ++ List.replicate (N - m) 0
theorem slices_Repeat_int_int.L_len (y : Int) (N m : Nat) (h : m ≤ N) : (slices_Repeat_int_int.L y N m).length = N := by simp [slices_Repeat_int_int.L]; omega
theorem slices_Repeat_int_int.L_step (y : Int) (N m k : Nat) (h : m + k ≤ N) : (slices_Repeat_int_int.L y N m).take m ++ List.replicate k y ++ (slices_Repeat_int_int.L y N m).drop (m + k) = slices_Repeat_int_int.L y N (m + k) := by
  unfold slices_Repeat_int_int.L
  rw [List.take_left' (by simp), List.drop_append, List.drop_eq_nil_of_le (by simp), List.length_replicate, List.drop_replicate, ← List.replicate_append_replicate (n := m) (m := k)]
  simp
  omega
set_option maxHeartbeats 4000000 in
set_option maxRecDepth 100000 in
theorem slices_Repeat_int_int.nat (A0 : Option Addr) (c0 : Nat) (y : Int) (N : Nat) (hN : 1 < N) (hN2 : N ≤ 256) (hm : bits_Mul.f 1 (N : Int) = some (0, (N : Int))) (w : World) (hr0 : Kd.C (Kd.int .i64) w A0 1 [y]) (hc0 : 1 ≤ c0) :
    Calls Tryd.prog 22 #[.slice A0 1 c0, .int .i64 (N : Int)] w fun e w' => ∃ v0_ : Value, e = .returned v0_ ∧ Kd.R (Kd.int .i64) 3 w' w.heap.size (fun _ => True) v0_ (List.replicate N y) ∧ Below w.heap.size w w' := by
  have hN0 : decide ((N : Int) < 0) = false := decide_eq_false (by omega)
  have e1 : (N : Int) % 18446744073709551616 = (N : Int) := by omega
  have e2 : decide ((N : Int) > 9223372036854775807) = false := decide_eq_false (by omega)
  have e3 : decide (9223372036854775807 < (N : Int)) = false := decide_eq_false (by omega)
  have e4 : wrap64 (N : Int) = (N : Int) := w64 (by omega) (by omega)
  have e5 : Go.IntKind.i64.wrap (N : Int) = (N : Int) := by rw [i64_w]; exact e4
  obtain ⟨ad, ea, c1⟩ := Kd.at_int hr0 0 (by omega) (by omega)
  subst ea
  have HY : Aside0 (w.cell? (ad.add 0) = some (.int .i64 y)) := ⟨by simpa [rd] using c1⟩
  have HM := Aside0.mk hm
  clear hr0 hc0 hm c1
  go_enter Tryd.func22, Tryd.ntmps22
  go_wp2_with (first | (go_at_call 30; (with_reducible refine (bits_Mul.calls _ _ _ _ _ HM.out).mono ?_); rintro e w' ⟨rfl, ⟨nd, rfl⟩⟩) | ((with_reducible refine gate_dst (N := 30) rfl ?_); refine Kd.R_make (w0 := w) (Kd.int .i64) w.heap.size 3 rfl (N := 30) rfl 31 _ _ rfl (N : Int) rfl rfl Tryd.underlying31 (.int .i64 0) 8 info3 rfl (by decide) (by omega) 0 (ok := fun _ => True) (okp := fun _ => True) rfl (fun _ hk => hk) trivial (by omega) (by omega) (pw_below_drewN (Below.refl _ _) _) (by simp) ?_; intro v4 w4 ho hb hg_ hnew_; clear hg_ hnew_; rw [Int.toNat_natCast] at ho; obtain ⟨gr, cap, hv4, hgb, hgl, _⟩ := Kd.R_form ho (by rw [List.length_replicate]; omega); have hv5 : v4 = .slice (some ⟨gr, 0, none⟩) N cap := (by rw [hv4]; simp); subst hv5; clear hv4; have hcap := (Kd.R_reads' ho).2.1; obtain ⟨hcp, ho5⟩ := slices_Repeat_int_int.cp ho [y] 0 N cap ad 1 c0 (by simp [Nat.min_def]; omega) (by simp) (fun j hj => (by obtain rfl : j = 0 := (by simpa using hj); exact (hb.cell (p := ad.add 0) (World.block_lt_of_cell? w _ HY.out)).trans HY.out)); have hb5 := slices_Repeat_int_int.far hb hgb ([y].map (Value.int .i64)) 0; generalize w4.setCells gr 0 ([y].map (Value.int .i64)) = w5 at hcp ho5 hb5; have HO := Aside0.mk ho5; have HB := Aside0.mk hb5; clear ho ho5 hb hb5))
  clear hcp e1 e2 e3 e4 e5 hN0
  go_loopg [8] N (fun gg v8 wr => ∃ m : Nat, 1 ≤ m ∧ m ≤ N ∧ N - m ≤ gg ∧ v8 = .int .i64 (m : Int) ∧ Aside0 (Kd.R (Kd.int .i64) 3 wr w.heap.size (fun _ => True) (.slice (some ⟨gr, 0, none⟩) N cap) (slices_Repeat_int_int.L y N m)) ∧ Aside0 (Below w.heap.size w wr))
  case atStart => exact ⟨1, by omega, by omega, by omega, rfl, ⟨by have h := HO.out; simpa [slices_Repeat_int_int.L] using h⟩, HB⟩
  case round =>
    clear HO HB
    obtain ⟨m, h1, hmN, hg, rfl, HO, HB⟩ := hrel
    by_cases hlt : m < N
    · have hltz : (m : Int) < (N : Int) := by omega
      have hcm : ¬ cap = m := by omega
      have hcm2 : ¬ m = 0 := by omega
      obtain ⟨k, hk⟩ : ∃ k, k = Nat.min m (N - m) := ⟨_, rfl⟩
      have hk1 : k ≤ m := by rw [hk]; exact Nat.min_le_left _ _
      have hk2 : k ≤ N - m := by rw [hk]; exact Nat.min_le_right _ _
      have hk0 : 0 < k := by rw [hk]; exact Nat.lt_min.mpr ⟨by omega, by omega⟩
      have hcell : ∀ j, j < m → wr.cell? ((⟨gr, 0, none⟩ : Addr).add j) = some (.int .i64 y) := fun j hj => by
        have := (Kd.R_celln 0 HO.out (j : Int) (by omega) (by omega)).1
        rw [Int.toNat_natCast] at this
        rw [add_plain, this]
        simp [rdOf, slices_Repeat_int_int.L, List.getD_eq_getElem?_getD, List.getElem?_append_left, hj]
      have CP : ∀ W, Below wr.heap.size wr W → ((Builtin.copy_ #[31, 31] 3 #[.slice (some ⟨gr, m, none⟩) (N - m) (cap - m), .slice (some ⟨gr, 0, none⟩) m cap]).run Tryd.prog W = .ok (.int .i64 (k : Int)) (W.setCells gr m ((List.replicate k y).map (Value.int .i64))) ∧ (Kd.int .i64).R 3 (W.setCells gr m ((List.replicate k y).map (Value.int .i64))) w.heap.size (fun _ => True) (.slice (some ⟨gr, 0, none⟩) N cap) (slices_Repeat_int_int.L y N (m + k))) := fun W hb => by
        have h := slices_Repeat_int_int.cp (Kd.R_below HO.out hb) (List.replicate k y) m (N - m) (cap - m) ⟨gr, 0, none⟩ m cap (by rw [List.length_replicate]; exact hk) (by rw [slices_Repeat_int_int.L_len y N m hmN]; omega) (fun j hj => by
          rw [List.length_replicate] at hj
          rw [pw_cell_below hb (hcell j (by omega))]
          simp [List.getD_eq_getElem?_getD, hj])
        rw [List.length_replicate, slices_Repeat_int_int.L_step y N m k (by omega)] at h
        exact h
      have CPA := Aside0.mk CP
      have hc0 := (CP wr (Below.refl _ _)).1
      have hc1 := (CP wr.drew (below_drew (Below.refl _ _))).1
      have e6 : wrap64 ((m : Int) + (k : Int)) = ((m + k : Nat) : Int) := by rw [w64 (by omega) (by omega)]; push_cast; rfl
      have hKK := Aside0.mk hk
      clear CP hcell hk
      go_wp2
      go_region
      all_goals
        go_wp2
        go_roundg (N - (m + k))
        case measure => omega
        case rel =>
          refine ⟨m + k, by omega, by omega, by omega, by push_cast; rfl, ⟨?_⟩, ⟨?_⟩⟩
          · first | (have h := (CPA.out wr.drew (below_drew (Below.refl _ _))).2; simpa using h) | (have h := (CPA.out wr (Below.refl _ _)).2; simpa using h)
          · exact slices_Repeat_int_int.far (by first | exact HB.out | exact below_drew HB.out) hgb _ _
    · obtain rfl : m = N := by omega
      have hL : slices_Repeat_int_int.L y m m = List.replicate m y := by simp [slices_Repeat_int_int.L]
      rw [hL] at HO
      go_wp2
      go_ret
      exact ⟨_, rfl, HO.out, HB.out⟩
theorem slices_Repeat_int_int.calls (A0 : Option Addr) (c0 : Nat) (l0 : List Int) (a1 : Int) (r : List Int) (w : World) (hr0 : Kd.C (Kd.int .i64) w A0 l0.length l0) (hc0 : l0.length ≤ c0) (h : slices_Repeat_int_int.f l0 a1 = some r) :
    Calls Tryd.prog 22 #[.slice A0 l0.length c0, .int .i64 a1] w fun e w' => ∃ v0_ : Value, e = .returned v0_ ∧ Kd.R (Kd.int .i64) 3 w' w.heap.size (fun _ => True) v0_ r ∧ Below w.heap.size w w' := by
  unfold slices_Repeat_int_int.f at h
  by_cases hc : l0.length = 1 ∧ (a1 = 2 ∨ a1 = 4 ∨ a1 = 16 ∨ a1 = 256)
  · rw [if_pos hc] at h
    obtain ⟨hl, ha⟩ := hc
    have h := Option.some.inj h
    obtain ⟨y, rfl⟩ := List.length_eq_one_iff.1 hl
    have hm := slices_Repeat_int_int.mul a1 ha
    obtain ⟨N, rfl⟩ := nat_of (x := a1) (by omega)
    rw [← h, Int.toNat_natCast]
    exact slices_Repeat_int_int.nat A0 c0 y N (by omega) (by omega) hm w hr0 (by simpa using hc0)
  · rw [if_neg hc] at h; cases h


end Go.Proofs.YtmdpjmcleckedaaDoor.Print
