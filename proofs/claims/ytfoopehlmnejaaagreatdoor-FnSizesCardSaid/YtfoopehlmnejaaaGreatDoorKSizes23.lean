import Derived.Test.YtfoopehlmnejaaaGreatDoorKSizes2
import Derived.Test.YtfoopehlmnejaaaGreatDoorKSizes11
import Derived.Test.YtfoopehlmnejaaaGreatDoorM35
import Derived.Laws.IdiomCopy
import Derived.BigRegion
import Derived.Deep.RegionLaw
import Derived.Deep.AppendLies
import Derived.Deep.RegionHeld3
import Derived.BigQuiet
namespace Go.Proofs.YtfoopehlmnejaaaGreatDoor.Print
open Go.RowKit Go.Proofs.YtfoopehlmnejaaaGreatDoorW.PrintWords Go.Proofs.YtfoopehlmnejaaaGreatDoorW.PrintLast Go.Proofs.YtfoopehlmnejaaaGreatDoorW.PrintMore
attribute [local go_sem] max2_int min2_int max_two min_two max_three min_three max_four min_four   -- for this text's walks alone
set_option linter.unusedVariables false
set_option linter.unusedSimpArgs false
open Go.Proofs.YtfoopehlmnejaaaGreatDoor.M
def slices_Repeat_int_int.f (l0 : List Int) (a1 : Int) : Option (List Int) :=
 if l0.length = 1 ∧ (a1 = 2 ∨ a1 = 4 ∨ a1 = 16 ∨ a1 = 256) then some (List.replicate a1.toNat (rd l0 0)) else none
theorem slices_Repeat_int_int.puts {e base g n cap : Nat} {ok : Nat → Prop} : ∀ (vs : List Int) (o : Nat) (W : World) (xs : List Int), (Kd.int .i64).R e W base ok (.slice (some ⟨g, 0, none⟩) n cap) xs → o + vs.length ≤ xs.length →
  (Kd.int .i64).R e (W.setCells g o (vs.map (Value.int .i64))) base ok (.slice (some ⟨g, 0, none⟩) n cap) (xs.take o ++ vs ++ xs.drop (o + vs.length))
 | [], o, W, xs, h, hl => by simpa [World.setCells] using h
 | v :: r, o, W, xs, h, hl => by
  have h1 := Kd.R_putn h (o : Int) v
  rw [Int.toNat_natCast] at h1
  have h2 := slices_Repeat_int_int.puts r (o + 1) _ _ h1 (by rw [List.length_set]; simp at hl; omega)
  rw [List.map_cons, World.setCells]
  have e1 : (xs.set o v).take (o + 1) ++ r ++ (xs.set o v).drop (o + 1 + r.length) = xs.take o ++ (v :: r) ++ xs.drop (o + (v :: r).length) := by
   simp only [List.length_cons] at hl ⊢
   rw [List.drop_set_of_lt (by omega), List.take_add_one, List.take_set_of_le (by omega)]
   simp [show o < xs.length by omega, show o + 1 + r.length = o + (r.length + 1) by omega]
  rw [← e1]
  exact h2
theorem slices_Repeat_int_int.mul (N : Int) (h : N = 2 ∨ N = 4 ∨ N = 16 ∨ N = 256) : bits_Mul.f 1 N = some (0, N) := by
 rcases h with rfl | rfl | rfl | rfl <;> decide +kernel
theorem slices_Repeat_int_int.size1 : (Tryz.prog.info? 3).map (·.size) = some 1 := by
 obtain ⟨i, hi, he⟩ := Option.map_eq_some_iff.1 info3
 simp only [Prod.mk.injEq] at he
 rw [hi, Option.map_some, he.2.1]
theorem slices_Repeat_int_int.cp {base g n cap : Nat} {xs : List Int} {W : World} (h : (Kd.int .i64).R 3 W base (fun _ => True) (.slice (some ⟨g, 0, none⟩) n cap) xs) (ys : List Int) (o dl dc : Nat) (a : Addr) (sl sc : Nat) (hk : ys.length = Nat.min sl dl) (ho : o + dl ≤ xs.length)
  (hs : ∀ j, j < ys.length → W.cell? (a.add j) = some (.int .i64 (ys.getD j 0))) :
  (Builtin.copy_ #[37, 37] 3 #[.slice (some ⟨g, o, none⟩) dl dc, .slice (some a) sl sc]).run Tryz.prog W = .ok (.int .i64 (ys.length : Int)) (W.setCells g o (ys.map (Value.int .i64))) ∧
   (Kd.int .i64).R 3 (W.setCells g o (ys.map (Value.int .i64))) base (fun _ => True) (.slice (some ⟨g, 0, none⟩) n cap) (xs.take o ++ ys ++ xs.drop (o + ys.length)) := by
 have hkd : ys.length ≤ dl := by rw [hk]; exact Nat.min_le_right _ _
 have hn := (Kd.R_reads' h).1
 refine ⟨?_, slices_Repeat_int_int.puts ys o W xs h (by omega)⟩
 have hr := Go.run_copy_cells (P := Tryz.prog) W 37 37 3 3 g o dl dc a sl sc (ys.map (Value.int .i64)) Tryz.underlying37 slices_Repeat_int_int.size1 (by rw [List.length_map]; exact hk) ?_ ?_ ?_ ?_
 ·rw [hr, List.length_map]; rfl
 ·intro j v hv
  rw [List.getElem?_map] at hv
  obtain ⟨q, hq, rfl⟩ := Option.map_eq_some_iff.1 hv
  have hj := (List.getElem?_eq_some_iff.1 hq).1
  rw [hs j hj, List.getD_eq_getElem?_getD, hq]; rfl
 ·intro j hj
  rw [List.length_map] at hj
  have := (Kd.R_celln 0 h ((o + j : Nat) : Int) (by omega) (by omega)).1
  rw [Int.toNat_natCast] at this
  rw [this]; rfl
 ·intro j hj
  rw [List.length_map] at hj
  have := (Kd.R_celln 0 h ((o + j : Nat) : Int) (by omega) (by omega)).2
  rwa [Int.toNat_natCast] at this
 ·intro v hv
  obtain ⟨q, _, rfl⟩ := List.mem_map.1 hv
  rfl
theorem slices_Repeat_int_int.far {B g : Nat} {w W : World} (h : Below B w W) (hg : B ≤ g) : ∀ (vs : List Value) (o : Nat), Below B w (W.setCells g o vs)
 | vs, o => ⟨((setCells_same g vs o W).1).trans h.os, ((setCells_same g vs o W).2.1).trans h.tape, ((setCells_same g vs o W).2.2.1).trans h.output, by rw [(setCells_same g vs o W).2.2.2]; exact h.size, fun k hk => (setCells_far vs o k (by omega)).trans (h.block k hk)⟩
def slices_Repeat_int_int.L (y : Int) (N m : Nat) : List Int := List.replicate m y ++ List.replicate (N - m) 0
theorem slices_Repeat_int_int.L_len (y : Int) (N m : Nat) (h : m ≤ N) : (slices_Repeat_int_int.L y N m).length = N := by simp [slices_Repeat_int_int.L]; omega
theorem slices_Repeat_int_int.L_step (y : Int) (N m k : Nat) (h : m + k ≤ N) : (slices_Repeat_int_int.L y N m).take m ++ List.replicate k y ++ (slices_Repeat_int_int.L y N m).drop (m + k) = slices_Repeat_int_int.L y N (m + k) := by
 unfold slices_Repeat_int_int.L
 rw [List.take_left' (by simp), List.drop_append, List.drop_eq_nil_of_le (by simp), List.length_replicate, List.drop_replicate, ← List.replicate_append_replicate (n := m) (m := k)]
 simp
 omega
set_option maxHeartbeats 4000000 in
set_option maxRecDepth 100000 in
theorem slices_Repeat_int_int.nat (A0 : Option Addr) (c0 : Nat) (y : Int) (N : Nat) (hN : 1 < N) (hN2 : N ≤ 256) (hm : bits_Mul.f 1 (N : Int) = some (0, (N : Int))) (w : World) (hr0 : Kd.C (Kd.int .i64) w A0 1 [y]) (hc0 : 1 ≤ c0) :
  Calls Tryz.prog 72 #[.slice A0 1 c0, .int .i64 (N : Int)] w fun e w' => ∃ v0_ : Value, e = .returned v0_ ∧ Kd.R (Kd.int .i64) 3 w' w.heap.size (fun _ => True) v0_ (List.replicate N y) ∧ Below w.heap.size w w' := by
 have hN0 : decide ((N : Int) < 0) = false := decide_eq_false (by omega)
 have e1 : (N : Int) % 18446744073709551616 = (N : Int) := by omega
 have e2 : decide ((N : Int) > 9223372036854775807) = false := decide_eq_false (by omega)
 have e3 : decide (9223372036854775807 < (N : Int)) = false := decide_eq_false (by omega)
 have e4 : wrap64 (N : Int) = (N : Int) := w64 (by omega) (by omega)
 have e5 : Go.IntKind.i64.wrap (N : Int) = (N : Int) := by rw [i64_w]; exact e4
 obtain ⟨ad, ea, c1⟩ := Kd.at_int hr0 0 (by omega) (by omega)
 subst ea
 have HY : Aside0 (w.cell? (ad.add 0) = some (.int .i64 y)) := ⟨by simpa [rd] using c1⟩
 have HM := A_ hm; clear hr0 hc0 hm c1
 go_enter Tryz.func72, Tryz.ntmps72
 go_wp2_with (first | (go_at_call 90; (with_reducible refine (bits_Mul.calls _ _ _ _ _ HM.out).mono ?_); rintro e w' ⟨rfl, ⟨nd, rfl⟩⟩) | ((with_reducible refine gate_dst (N := 30) rfl ?_); refine Kd.R_make (w0 := w) (Kd.int .i64) w.heap.size 3 rfl (N := 30) rfl 37 _ _ rfl (N : Int) rfl rfl Tryz.underlying37 (.int .i64 0) 8 info3 rfl (by decide) (by omega) 0 (ok := fun _ => True) (okp := fun _ => True) rfl (fun _ hk => hk) trivial (by omega) (by omega) (pw_below_drewN (Below.refl _ _) _) (by simp) ?_; intro v4 w4 ho hb hg_ hnew_; clear hg_ hnew_; rw [Int.toNat_natCast] at ho; obtain ⟨gr, cap, hv4, hgb, hgl, _⟩ := Kd.R_form ho (by rw [List.length_replicate]; omega); have hv5 : v4 = .slice (some ⟨gr, 0, none⟩) N cap := (by rw [hv4]; simp); subst hv5; clear hv4; have hcap := (Kd.R_reads' ho).2.1; obtain ⟨hcp, ho5⟩ := slices_Repeat_int_int.cp ho [y] 0 N cap ad 1 c0 (by simp [Nat.min_def]; omega) (by simp) (fun j hj => (by obtain rfl : j = 0 := (by simpa using hj); exact (hb.cell (p := ad.add 0) (World.block_lt_of_cell? w _ HY.out)).trans HY.out)); have hb5 := slices_Repeat_int_int.far hb hgb ([y].map (Value.int .i64)) 0; generalize w4.setCells gr 0 ([y].map (Value.int .i64)) = w5 at hcp ho5 hb5; have HO := A_ ho5; have HB := A_ hb5; clear ho ho5 hb hb5))
 clear hcp e1 e2 e3 e4 e5 hN0
 go_loopg [8] N (fun gg v8 wr => ∃ m : Nat, 1 ≤ m ∧ m ≤ N ∧ N - m ≤ gg ∧ v8 = .int .i64 (m : Int) ∧ Aside0 (Kd.R (Kd.int .i64) 3 wr w.heap.size (fun _ => True) (.slice (some ⟨gr, 0, none⟩) N cap) (slices_Repeat_int_int.L y N m)) ∧ Aside0 (Below w.heap.size w wr))
 case atStart => exact ⟨1, by omega, by omega, by omega, rfl, ⟨by have h := HO.out; simpa [slices_Repeat_int_int.L] using h⟩, HB⟩
 case round =>
  clear HO HB; obtain ⟨m, h1, hmN, hg, rfl, HO, HB⟩ := hrel
  by_cases hlt : m < N
  ·have hltz : (m : Int) < (N : Int) := by omega
   have hcm : ¬ cap = m := by omega
   have hcm2 : ¬ m = 0 := by omega
   obtain ⟨k, hk⟩ : ∃ k, k = Nat.min m (N - m) := ⟨_, rfl⟩
   have hk1 : k ≤ m := by rw [hk]; exact Nat.min_le_left _ _
   have hk2 : k ≤ N - m := by rw [hk]; exact Nat.min_le_right _ _
   have hk0 : 0 < k := by rw [hk]; exact Nat.lt_min.mpr ⟨by omega, by omega⟩
   have hcell : ∀ j, j < m → wr.cell? ((⟨gr, 0, none⟩ : Addr).add j) = some (.int .i64 y) := fun j hj => by
    have := (Kd.R_celln 0 HO.out (j : Int) (by omega) (by omega)).1
    rw [Int.toNat_natCast] at this
    rw [add_plain, this]
    simp [rdOf, slices_Repeat_int_int.L, List.getD_eq_getElem?_getD, List.getElem?_append_left, hj]
   have CP : ∀ W, Below wr.heap.size wr W → ((Builtin.copy_ #[37, 37] 3 #[.slice (some ⟨gr, m, none⟩) (N - m) (cap - m), .slice (some ⟨gr, 0, none⟩) m cap]).run Tryz.prog W = .ok (.int .i64 (k : Int)) (W.setCells gr m ((List.replicate k y).map (Value.int .i64))) ∧ (Kd.int .i64).R 3 (W.setCells gr m ((List.replicate k y).map (Value.int .i64))) w.heap.size (fun _ => True) (.slice (some ⟨gr, 0, none⟩) N cap) (slices_Repeat_int_int.L y N (m + k))) := fun W hb => by
    have h := slices_Repeat_int_int.cp (Kd.R_below HO.out hb) (List.replicate k y) m (N - m) (cap - m) ⟨gr, 0, none⟩ m cap (by rw [List.length_replicate]; exact hk) (by rw [slices_Repeat_int_int.L_len y N m hmN]; omega) (fun j hj => by
     rw [List.length_replicate] at hj
     rw [pw_cell_below hb (hcell j (by omega))]
     simp [List.getD_eq_getElem?_getD, hj])
    rw [List.length_replicate, slices_Repeat_int_int.L_step y N m k (by omega)] at h
    exact h
   have CPA := A_ CP
   have hc0 := (CP wr (Below.refl _ _)).1
   have hc1 := (CP wr.drew (below_drew (Below.refl _ _))).1
   have e6 : wrap64 ((m : Int) + (k : Int)) = ((m + k : Nat) : Int) := by rw [w64 (by omega) (by omega)]; push_cast; rfl
   have hKK := A_ hk; clear CP hcell hk
   go_wp2
   go_region
   all_goals
    go_wp2
    go_roundg (N - (m + k))
    case measure => omega
    case rel =>
     refine ⟨m + k, by omega, by omega, by omega, by push_cast; rfl, ⟨?_⟩, ⟨?_⟩⟩
     ·first | (have h := (CPA.out wr.drew (below_drew (Below.refl _ _))).2; simpa using h) | (have h := (CPA.out wr (Below.refl _ _)).2; simpa using h)
     ·exact slices_Repeat_int_int.far (by first | exact HB.out | exact below_drew HB.out) hgb _ _
  ·obtain rfl : m = N := by omega
   have hL : slices_Repeat_int_int.L y m m = List.replicate m y := by simp [slices_Repeat_int_int.L]
   rw [hL] at HO
   go_wp2
   go_ret
   exact ⟨_, rfl, HO.out, HB.out⟩
theorem slices_Repeat_int_int.calls (A0 : Option Addr) (c0 : Nat) (l0 : List Int) (a1 : Int) (r : List Int) (w : World) (hr0 : Kd.C (Kd.int .i64) w A0 l0.length l0) (hc0 : l0.length ≤ c0) (h : slices_Repeat_int_int.f l0 a1 = some r) :
  Calls Tryz.prog 72 #[.slice A0 l0.length c0, .int .i64 a1] w fun e w' => ∃ v0_ : Value, e = .returned v0_ ∧ Kd.R (Kd.int .i64) 3 w' w.heap.size (fun _ => True) v0_ r ∧ Below w.heap.size w w' := by
 unfold slices_Repeat_int_int.f at h
 by_cases hc : l0.length = 1 ∧ (a1 = 2 ∨ a1 = 4 ∨ a1 = 16 ∨ a1 = 256)
 ·rw [if_pos hc] at h
  obtain ⟨hl, ha⟩ := hc
  have h := Option.some.inj h
  obtain ⟨y, rfl⟩ := List.length_eq_one_iff.1 hl
  have hm := slices_Repeat_int_int.mul a1 ha
  obtain ⟨N, rfl⟩ := nat_of (x := a1) (by omega)
  rw [← h, Int.toNat_natCast]
  exact slices_Repeat_int_int.nat A0 c0 y N (by omega) (by omega) hm w hr0 (by simpa using hc0)
 ·rw [if_neg hc] at h; cases h
end Go.Proofs.YtfoopehlmnejaaaGreatDoor.Print
namespace Go.Proofs.YtfoopehlmnejaaaGreatDoor.Print
open Go.RowKit Go.Proofs.YtfoopehlmnejaaaGreatDoorW.PrintWords Go.Proofs.YtfoopehlmnejaaaGreatDoorW.PrintLast Go.Proofs.YtfoopehlmnejaaaGreatDoorW.PrintMore
attribute [local go_sem] max2_int min2_int max_two min_two max_three min_three max_four min_four   -- for this text's walks alone
set_option linter.unusedVariables false
set_option linter.unusedSimpArgs false
def slices_Index_int_int.l0 : Nat → List Int → Int → Int → Int → Option (Int)
 | 0, _, _, _, _ => none
 | k + 1, x0, x1, x7, x8 => if x8 < x7 then (if 0 ≤ x8 then (if x8 < (x0.length : Int) then (if x1 = (rd x0 x8) then (some x8) else (slices_Index_int_int.l0 k x0 x1 x7 (wrap64 (x8 + 1)))) else (none)) else (none)) else (some (-1))
def slices_Index_int_int.f (k : Nat) (l0 : List Int) (a1 : Int) : Option (Int) := slices_Index_int_int.l0 k l0 a1 (l0.length : Int) 0
set_option maxHeartbeats 8000000 in
set_option maxRecDepth 100000 in
theorem slices_Index_int_int.calls (k : Nat) (A0 : Option Addr) (c0 : Nat) (l0 : List Int) (a1 : Int) (r : Int) (w : World) (hr0 : Kd.C (Kd.int .i64) w A0 l0.length l0) (hc0 : l0.length ≤ c0) (h : slices_Index_int_int.f k l0 a1 = some r) :
  Calls Tryz.prog 91 #[.slice A0 l0.length c0, .int .i64 a1] w fun e w' => e = .returned (.int .i64 r) ∧ Drawn0 w w' := by
 have HR0 := A_ hr0; have HC0 := A_ hc0; clear hr0 hc0
 have H : (slices_Index_int_int.l0 k l0 a1 (l0.length : Int) 0) = some r := h
 clear h
 have H' := A_ H
 clear H
 go_enter Tryz.func91, Tryz.ntmps91
 go_wp2
 go_loopg [8] k (fun kq v8 w' => ∃ (x8_1 : Int), v8 = .int .i64 x8_1 ∧ Aside0 (slices_Index_int_int.l0 kq l0 a1 (l0.length : Int) x8_1 = some r) ∧ Aside0 (kq ≤ k) ∧ Drawn0 w w')
 case atStart => exact ⟨(0), q1_, H', ⟨Nat.le_refl _⟩, q5_⟩
 case round =>
  clear H'
  obtain ⟨x8_1, rfl, HA, HK1, ⟨m1, rfl⟩⟩ := hrel
  cases gk with
  | zero => exact absurd HA.out (by simp [slices_Index_int_int.l0])
  | succ k1 =>
   have H := HA.out
   clear HA
   simp only [slices_Index_int_int.l0] at H
   by_cases c3 : x8_1 < (l0.length : Int)
   ·rw [if_pos c3] at H
    have c3b0 : decide (x8_1 < (l0.length : Int)) = true := decide_eq_true c3
    clear c3
    by_cases c4 : 0 ≤ x8_1
    ·rw [if_pos c4] at H
     have c4b0 : decide (0 ≤ x8_1) = true := decide_eq_true c4
     clear c4
     by_cases c5 : x8_1 < (l0.length : Int)
     ·rw [if_pos c5] at H
      have c5b0 : decide (x8_1 < (l0.length : Int)) = true := decide_eq_true c5
      clear c5
      by_cases c6 : a1 = (rd l0 x8_1)
      ·rw [if_pos c6] at H
       have c6b0 : (a1 == (rd l0 x8_1)) = true := beq_iff_eq.mpr c6
       have c6b1 : (a1 != (rd l0 x8_1)) = false := bne_eq_false_iff_eq.mpr c6
       clear c6
       obtain rfl := Option.some.inj H
       have p263 : 0 ≤ (x8_1 : Int) := of_decide_eq_true q8_
       have q263 : x8_1 < (l0.length : Int) := of_decide_eq_true q8_
       obtain ⟨ad263, e263, hx263_0⟩ := Kd.at_int HR0.out x8_1 p263 q263
       cases e263
       replace p263 := eq_true p263
       replace q263 := eq_true q263
       go_wp2
       go_ret
       exact ⟨q1_, q5_⟩
      ·rw [if_neg c6] at H
       have c6b0 : (a1 == (rd l0 x8_1)) = false := beq_eq_false_iff_ne.mpr c6
       have c6b1 : (a1 != (rd l0 x8_1)) = true := bne_iff_ne.mpr c6
       have H' := A_ H
       clear H
       have p263 : 0 ≤ (x8_1 : Int) := of_decide_eq_true q8_
       have q263 : x8_1 < (l0.length : Int) := of_decide_eq_true q8_
       obtain ⟨ad263, e263, hx263_0⟩ := Kd.at_int HR0.out x8_1 p263 q263
       cases e263
       replace p263 := eq_true p263
       replace q263 := eq_true q263
       go_wp2
       go_roundg k1
       case measure => have := HK1.out; omega
       case rel => exact ⟨(wrap64 (x8_1 + 1)), q1_, H', ⟨by have := HK1.out; omega⟩, q5_⟩
     ·rw [if_neg c5] at H
      exact absurd H (by simp)
    ·rw [if_neg c4] at H
     exact absurd H (by simp)
   ·rw [if_neg c3] at H
    have c3b0 : decide (x8_1 < (l0.length : Int)) = false := decide_eq_false c3
    clear c3
    obtain rfl := Option.some.inj H
    go_wp2
    go_ret
    exact ⟨q1_, q5_⟩
def slices_Contains_int_int.f (k : Nat) (l0 : List Int) (a1 : Int) : Option (Bool) := (slices_Index_int_int.f k l0 a1).bind fun t264 => (some (decide (t264 ≥ 0)))
set_option maxHeartbeats 8000000 in
set_option maxRecDepth 100000 in
theorem slices_Contains_int_int.calls (k : Nat) (A0 : Option Addr) (c0 : Nat) (l0 : List Int) (a1 : Int) (r : Bool) (w : World) (hr0 : Kd.C (Kd.int .i64) w A0 l0.length l0) (hc0 : l0.length ≤ c0) (h : slices_Contains_int_int.f k l0 a1 = some r) :
  Calls Tryz.prog 74 #[.slice A0 l0.length c0, .int .i64 a1] w fun e w' => e = .returned (.bool r) ∧ Drawn0 w w' := by
 have HR0 := A_ hr0; have HC0 := A_ hc0; clear hr0 hc0
 have H : ((slices_Index_int_int.f k l0 a1).bind fun t264 => (some (decide (t264 ≥ 0)))) = some r := h
 clear h; replace H := Option.bind_eq_some_iff.mp H; obtain ⟨t264, A30, H⟩ := H
 replace H : (some (decide (t264 ≥ 0))) = some r := H
 have A3 := A_ A30; clear A30
 obtain rfl := Option.some.inj H
 go_enter Tryz.func74, Tryz.ntmps74
 go_wp2_with (first | ((with_reducible refine gate_callee (f := 91) rfl ?_); refine goesL_ (some 7) rfl rfl Tryz.func91 kr_ rfl #[.slice A0 l0.length c0, .int .i64 a1] rfl q2_ ?_; (with_reducible refine (slices_Index_int_int.calls k _ _ l0 a1 t264 _ ?side1 ?side2 A3.out).mono ?_); (case side1 => exact q13_); (case side2 => exact HC0.out); rintro e w' ⟨rfl, ⟨nd, rfl⟩⟩; refine ⟨_, rfl, ?_⟩))
 go_ret
 exact ⟨q1_, q5_⟩
end Go.Proofs.YtfoopehlmnejaaaGreatDoor.Print
namespace Go.Proofs.YtfoopehlmnejaaaGreatDoor.Print
open Go.RowKit Go.Proofs.YtfoopehlmnejaaaGreatDoorW.PrintWords Go.Proofs.YtfoopehlmnejaaaGreatDoorW.PrintLast Go.Proofs.YtfoopehlmnejaaaGreatDoorW.PrintMore
attribute [local go_sem] max2_int min2_int max_two min_two max_three min_three max_four min_four   -- for this text's walks alone
set_option linter.unusedVariables false
set_option linter.unusedSimpArgs false
set_option maxRecDepth 100000
open Go.Proofs.YtfoopehlmnejaaaGreatDoor.M
def impl_sizes.c.Mem (w : World) (po pb go co ro cb : Nat) (out : List Int) (rows : List (List Int)) (W : World) : Prop :=
 W.heap[po]? = some (.cells #[.slice (some ⟨go, 0, none⟩) out.length co] 37 (0, 0)) ∧
 W.heap[pb]? = some (.cells #[.slice (some ⟨ro, 0, none⟩) rows.length cb] 79 (0, 0)) ∧
 Kd.R (Kd.int .i64) 3 W w.heap.size (fun k => k = go) (.slice (some ⟨go, 0, none⟩) out.length co) out ∧
 Kd.S (Kd.slice 3 (Kd.int .i64)) 37 W w.heap.size (fun k => k ≠ go ∧ k ≠ po ∧ k ≠ pb) (.slice (some ⟨ro, 0, none⟩) rows.length cb) rows ∧
 Below w.heap.size w W
theorem impl_sizes.c.Mem.below {w : World} {po pb go co ro cb : Nat} {out : List Int} {rows : List (List Int)} {W W' : World} (h : impl_sizes.c.Mem w po pb go co ro cb out rows W) (hb : Below W.heap.size W W') : impl_sizes.c.Mem w po pb go co ro cb out rows W' :=
 ⟨blk_below h.1 hb, blk_below h.2.1 hb, Kd.R_below h.2.2.1 hb, Kd.S_below h.2.2.2.1 hb, h.2.2.2.2.trans (hb.mono h.2.2.2.2.size)⟩
set_option maxHeartbeats 4000000 in
theorem impl_sizes.c.skip (w : World) (po pb go co ro cb : Nat) (out : List Int) (rows : List (List Int)) (x s : Nat) (hx : x < out.length) (hn : ¬ rd out (x : Int) < 0) (W : World) (h : impl_sizes.c.Mem w po pb go co ro cb out rows W) :
  Calls Tryz.prog 73 #[.int .i64 (x : Int), .int .i64 (s : Int), .pointer (some ⟨po, 0, none⟩), .pointer (some ⟨pb, 0, none⟩)] W fun e W' => e = .returned (.tuple #[]) ∧ impl_sizes.c.Mem w po pb go co ro cb out rows W' ∧ Below W.heap.size W W' := by
 have c0 : W.cell? ⟨po, 0, none⟩ = some (.slice (some ⟨go, 0, none⟩) out.length co) := blk_cell h.1 0
 have c1 := (Kd.R_celln 0 h.2.2.1 (x : Int) (by omega) (by omega)).1
 rw [Int.toNat_natCast] at c1
 have c1' : W.cell? ⟨go, x, none⟩ = some (.int .i64 (rd out (x : Int))) := c1
 have hxl : (x : Int) < (out.length : Int) := by omega
 have H := A_ h
 have hd : decide (rd out (x : Int) < 0) = false := decide_eq_false hn
 generalize rd out (x : Int) = y at *
 generalize hL : out.length = L at *
 clear h c1 hn hx
 go_enter Tryz.func73, Tryz.ntmps73
 go_wp2
 refine bodyPost_end (v := .tuple #[]) (by simp [results, Tryz.results73]) rfl ⟨rfl, ?_, ?_⟩
 ·exact H.out
 ·exact Below.refl _ _
set_option maxHeartbeats 8000000 in
theorem impl_sizes.c.take (w : World) (po pb go co ro cb : Nat) (out : List Int) (rows : List (List Int)) (x s : Nat) (hx : x < out.length) (hs : s < rows.length) (hl : (rows.getD s []).length ≤ 1000) (hn : rd out (x : Int) < 0) (W : World) (h : impl_sizes.c.Mem w po pb go co ro cb out rows W) (hp : w.heap.size ≤ po ∧ w.heap.size ≤ pb ∧ w.heap.size ≤ go ∧ w.heap.size ≤ ro ∧ po ≠ pb ∧ po ≠ go ∧ pb ≠ go ∧ po ≠ ro ∧ pb ≠ ro ∧ go ≠ ro) :
  Calls Tryz.prog 73 #[.int .i64 (x : Int), .int .i64 (s : Int), .pointer (some ⟨po, 0, none⟩), .pointer (some ⟨pb, 0, none⟩)] W fun e W' => e = .returned (.tuple #[]) ∧ impl_sizes.c.Mem w po pb go co ro cb (out.set x (s : Int)) (rows.set s (rows.getD s [] ++ [(x : Int)])) W' ∧ ∀ k, k ≠ s → W'.cell? ⟨ro, k, none⟩ = W.cell? ⟨ro, k, none⟩ := by
 have c0 : W.cell? ⟨po, 0, none⟩ = some (.slice (some ⟨go, 0, none⟩) out.length co) := blk_cell h.1 0
 obtain ⟨c1, z1⟩ := Kd.R_celln 0 h.2.2.1 (x : Int) (by omega) (by omega)
 rw [Int.toNat_natCast] at c1 z1
 have c1' : W.cell? ⟨go, x, none⟩ = some (.int .i64 (rd out (x : Int))) := c1
 have hxl : (x : Int) < (out.length : Int) := by omega
 have hd : decide (rd out (x : Int) < 0) = true := decide_eq_true hn
 obtain ⟨W1, hW1⟩ : ∃ W1, W1 = W.setCell ⟨go, x, none⟩ (.int .i64 (s : Int)) := ⟨_, rfl⟩
 have lgo : go < W.heap.size := Kd.R_lt h.2.2.1 go (by simp [Value.ownBlock])
 have lro : ro < W.heap.size := Kd.S_lt h.2.2.2.1 ro (by simp [Value.ownBlock])
 have lpo := blk_lt h.1
 have lpb := blk_lt h.2.1
 obtain ⟨p1, p2, p3, p4, p5, p6, p7, p8, p9, p10⟩ := hp
 have hsz : W1.heap.size = W.heap.size := by rw [hW1]; simp [World.setCell]
 have hR1 : Kd.R (Kd.int .i64) 3 W1 w.heap.size (fun k => k = go) (.slice (some ⟨go, 0, none⟩) out.length co) (out.set x (s : Int)) := by
  rw [hW1]; have := Kd.R_putn h.2.2.1 (x : Int) (s : Int); rw [Int.toNat_natCast] at this; exact this
 have hS1 : Kd.S (Kd.slice 3 (Kd.int .i64)) 37 W1 w.heap.size (fun k => k ≠ go ∧ k ≠ po ∧ k ≠ pb) (.slice (some ⟨ro, 0, none⟩) rows.length cb) rows := by
  rw [hW1]; exact Kd.S_far (p := ⟨go, x, none⟩) h.2.2.2.1 (fun k hk => hk.1) _
 have b1 : W1.heap[po]? = some (.cells #[.slice (some ⟨go, 0, none⟩) out.length co] 37 (0, 0)) := by rw [hW1]; exact blk_far (p := ⟨go, x, none⟩) h.1 p6 _
 have b2 : W1.heap[pb]? = some (.cells #[.slice (some ⟨ro, 0, none⟩) rows.length cb] 79 (0, 0)) := by rw [hW1]; exact blk_far (p := ⟨go, x, none⟩) h.2.1 p7 _
 have hB1 : Below w.heap.size w W1 := by rw [hW1]; exact h.2.2.2.2.setCell (p := ⟨go, x, none⟩) p3 _
 have hro1 : ∀ k, W1.cell? ⟨ro, k, none⟩ = W.cell? ⟨ro, k, none⟩ := fun k => by rw [hW1]; exact World.cell?_setCell_other _ _ _ _ (by simp [Ne.symm p10])
 obtain ⟨A0, n0, cc0, r1, r2, r3, r4⟩ := rows_push (P := Tryz.prog) (t := 37) (ty := 37) Tryz.underlying37 info3 (fun k hk => ⟨by omega, by omega, by omega⟩) hB1.size hS1 s hs [(x : Int)] (by show ((rows.getD s []).length + 1) * 8 ≤ _; omega)
 have q1 : W1.cell? ⟨pb, 0, none⟩ = some (.slice (some ⟨ro, 0, none⟩) rows.length cb) := blk_cell b2 0
 have X0 := r4 (W1.alloc (.cells #[.int .i64 (x : Int)] 3)) ⟨W1.heap.size, 0, none⟩ 1 1 (below_alloc (Below.refl _ _) _) rfl (fun j hj => by
  obtain rfl : j = 0 := by simpa using hj
  rw [add_plain]; exact blk_cell (blk_new W1 _) 0)
 have X1 := r4 (W1.alloc (.cells #[.int .i64 (x : Int)] 3)).drew ⟨W1.heap.size, 0, none⟩ 1 1 (below_drew (below_alloc (Below.refl _ _) _)) rfl (fun j hj => by
  obtain rfl : j = 0 := by simpa using hj
  rw [add_plain]; exact blk_cell (blk_drew (blk_new W1 _)) 0)
 obtain ⟨A2, m2, k2, w2, X2, e2, f2, g2, S2⟩ := X1
 have n1 := World.new_ne W1 _ q1
 have n2 := World.new_ne W1 _ r1
 have q4 := pw_cell_below (below_alloc (Below.refl _ W1) (.cells #[.int .i64 (x : Int)] 3)) q1
 have r5 := pw_cell_below (below_alloc (Below.refl _ W1) (.cells #[.int .i64 (x : Int)] 3)) r1
 have q2 : w2.cell? ⟨pb, 0, none⟩ = some (.slice (some ⟨ro, 0, none⟩) rows.length cb) := g2.cell q1 (fun e => (r3 pb e.symm).1.2.2 rfl)
 have hsr : (s : Int) < (rows.length : Int) := by omega
 have hgr : ∀ k, k < W1.heap.size → (∀ j, (Value.slice A0 n0 cc0).ownBlock = some j → k ≠ j) → w2.heap[k]? = W1.heap[k]? := fun k hk hne => g2.block k hk (fun e => hne k e.symm rfl)
 have FIN : impl_sizes.c.Mem w po pb go co ro cb (out.set x (s : Int)) (rows.set s (rows.getD s [] ++ [(x : Int)])) (w2.setCell ⟨ro, s, none⟩ (.slice A2 m2 k2)) ∧ ∀ k, k ≠ s → (w2.setCell ⟨ro, s, none⟩ (.slice A2 m2 k2)).cell? ⟨ro, k, none⟩ = W.cell? ⟨ro, k, none⟩ := by
  refine ⟨⟨?_, ?_, ?_, ?_, ?_⟩, fun k hk => ?_⟩
  ·rw [List.length_set]
   exact blk_far (p := ⟨ro, s, none⟩) ((hgr po (by omega) (fun j hj => (r3 j hj).1.2.1.symm)).trans b1) p8 _
  ·rw [List.length_set]
   exact blk_far (p := ⟨ro, s, none⟩) ((hgr pb (by omega) (fun j hj => (r3 j hj).1.2.2.symm)).trans b2) p9 _
  ·rw [List.length_set]
   exact Kd.R_far (p := ⟨ro, s, none⟩) (Kd.R_grown hR1 g2 (fun k hk e => (r3 k e.symm).1.1 hk)) (fun k hk => by rw [hk]; exact p10) _
  ·rw [List.length_set]; exact S2
  ·exact (hB1.grown g2 hB1.size (fun k hk => (r3 k hk).2.2)).setCell (p := ⟨ro, s, none⟩) p4 _
  ·rw [World.cell?_setCell_other _ _ _ _ (by simp [hk]), World.cell?_of_block (w := W1) (hgr ro (by omega) (fun j hj => (r3 j hj).2.1.symm)), hro1]
 have HW1 := A_ hW1
 have FIN' := A_ FIN
 generalize rd out (x : Int) = y at *
 clear FIN hgr r3 r4 hR1 b1 b2 hB1 hro1 g2 S2 hS1 hn hx hs hl h c1 lgo lro lpo lpb p1 p2 p3 p4 p5 p6 p7 p8 p9 hsz hW1 X0
 generalize hL : out.length = L at *
 generalize hM : rows.length = M at *
 clear hL hM
 go_enter Tryz.func73, Tryz.ntmps73
 go_wp2
 rw [← HW1.out]
 go_region_law ((refine step_app (by rfl) _ _ _ (by rfl) _ _ _ _ w2 (by rfl) (by rfl) X2 ?_))
 all_goals
  refine bodyPost_end (v := .tuple #[]) (by simp [results, Tryz.results73]) rfl ⟨rfl, ?_, ?_⟩
  ·exact FIN'.out.1
  ·exact FIN'.out.2
def impl_sizes.f (a0 : Int) : Option (List Int) := if 0 ≤ a0 ∧ a0 ≤ 3 then some (szL a0.toNat) else none
theorem impl_sizes.idx (l : List Int) (a : Int) (hl : l.length ≤ 1000) : ∀ d i, i + d = l.length → ∃ k r, slices_Index_int_int.l0 k l a (l.length : Int) (i : Int) = some r ∧ (r ≥ 0 ↔ ∃ j : Nat, i ≤ j ∧ j < l.length ∧ rd l (j : Int) = a)
 | 0, i, h => ⟨1, -1, by rw [slices_Index_int_int.l0, if_neg (by omega)], ⟨fun h => by omega, fun ⟨j, h1, h2, _⟩ => by omega⟩⟩
 | d + 1, i, h => by
  by_cases e : a = rd l (i : Int)
  ·exact ⟨1, i, by rw [slices_Index_int_int.l0, if_pos (by omega), if_pos (by omega), if_pos (by omega), if_pos e], ⟨fun _ => ⟨i, Nat.le_refl _, by omega, e.symm⟩, fun _ => by omega⟩⟩
  ·obtain ⟨k, r, h1, h2⟩ := impl_sizes.idx l a hl d (i + 1) (by omega)
   refine ⟨k + 1, r, ?_, h2.trans ⟨fun ⟨j, a1, a2, a3⟩ => ⟨j, by omega, a2, a3⟩, fun ⟨j, a1, a2, a3⟩ => ⟨j, ?_, a2, a3⟩⟩⟩
   ·rw [slices_Index_int_int.l0, if_pos (by omega), if_pos (by omega), if_pos (by omega), if_neg e, w64 (by omega) (by omega)]
    exact h1
   ·rcases Nat.lt_or_ge i j with h3 | h3
    ·exact h3
    ·obtain rfl : i = j := by omega
     exact absurd a3.symm e
theorem impl_sizes.has (l : List Int) (a : Int) (hl : l.length ≤ 1000) : ∃ k b, slices_Contains_int_int.f k l a = some b ∧ (b = true ↔ ∃ j : Nat, j < l.length ∧ rd l (j : Int) = a) := by
 obtain ⟨k, r, h1, h2⟩ := impl_sizes.idx l a hl l.length 0 (by omega)
 refine ⟨k, decide (r ≥ 0), ?_, ?_⟩
 ·unfold slices_Contains_int_int.f slices_Index_int_int.f
  rw [show ((0 : Nat) : Int) = 0 from rfl] at h1
  rw [h1]; rfl
 ·rw [decide_eq_true_eq, h2]
  exact ⟨fun ⟨j, _, h3, h4⟩ => ⟨j, h3, h4⟩, fun ⟨j, h3, h4⟩ => ⟨j, Nat.zero_le _, h3, h4⟩⟩
theorem impl_sizes.tk {n s : Nat} (hs1 : 1 ≤ s) {rows : List (List Int)} (hrl : rows.length = s) {out fr : List Int} {x : Nat} (hx : x < szN n) (hT : szT n x ≤ s) (hN : szN n ≤ 256) {w : World} {po pb go co ro cb : Nat} (hp : w.heap.size ≤ po ∧ w.heap.size ≤ pb ∧ po ≠ pb ∧ po ≠ go ∧ pb ≠ go) {W : World} (hM : impl_sizes.c.Mem w po pb go co ro cb out (rows ++ [fr]) W) (hI : SzI n s (-1) out fr) :
  Calls Tryz.prog 73 #[.int .i64 (x : Int), .int .i64 (s : Int), .pointer (some ⟨po, 0, none⟩), .pointer (some ⟨pb, 0, none⟩)] W fun e W' => e = .returned (.tuple #[]) ∧ impl_sizes.c.Mem w po pb go co ro cb (szTake n s (-1) (out, fr) x).1 (rows ++ [(szTake n s (-1) (out, fr) x).2]) W' ∧ SzI n s (-1) (szTake n s (-1) (out, fr) x).1 (szTake n s (-1) (out, fr) x).2 ∧ ∀ k, k ≠ s → W'.cell? ⟨ro, k, none⟩ = W.cell? ⟨ro, k, none⟩ := by
 have hkeep := szTake_keep (u := -1) (by omega) hs1 (o := (out, fr)) hI hx hT
 have hneg := hI.neg hx
 have hxl : x < out.length := by rw [hI.len]; exact hx
 have hc := hI.cou
 obtain ⟨p1, p2, p3, p4, p5⟩ := hp
 obtain ⟨q1, q2, q3⟩ := hM.2.2.2.1.elim (fun f h => h.1 ro (by simp [Value.ownBlock]))
 have b1 := Kd.R_base hM.2.2.1 go (by simp [Value.ownBlock])
 have b2 := Kd.S_base hM.2.2.2.1 ro (by simp [Value.ownBlock])
 have lro := Kd.S_lt hM.2.2.2.1 ro (by simp [Value.ownBlock])
 by_cases hn : rd out (x : Int) < 0
 ·have hi : szIs n (-1) out x = true := by rw [← hneg]; exact decide_eq_true hn
  have e1 : (rows ++ [fr]).getD s [] = fr := by rw [szgetD_snoc, if_neg (by omega), if_pos hrl.symm]
  have hc := impl_sizes.c.take w po pb go co ro cb out (rows ++ [fr]) x s hxl (by simp [hrl]) (by rw [e1]; omega) hn W hM ⟨p1, p2, b1, b2, p3, p4, p5, q2.symm, q3.symm, q1.symm⟩
  refine hc.mono ?_
  rintro e W' ⟨rfl, h1, h2⟩
  have e2 : szTake n s (-1) (out, fr) x = (out.set x (s : Int), fr ++ [(x : Int)]) := if_pos hi
  have e3 : (rows ++ [fr]).set s ((rows ++ [fr]).getD s [] ++ [(x : Int)]) = rows ++ [fr ++ [(x : Int)]] := by
   rw [e1, List.set_append_right _ _ (by omega), hrl, Nat.sub_self]; rfl
  rw [e3] at h1
  refine ⟨rfl, ?_, hkeep, h2⟩
  rw [e2]; exact h1
 ·have hi : ¬ szIs n (-1) out x = true := by rw [← hneg]; simpa using hn
  refine (impl_sizes.c.skip w po pb go co ro cb out (rows ++ [fr]) x s hxl hn W hM).mono ?_
  rintro e W' ⟨rfl, h1, h2⟩
  have e2 : szTake n s (-1) (out, fr) x = (out, fr) := if_neg hi
  refine ⟨rfl, ?_, hkeep, fun k _ => h2.cell (p := ⟨ro, k, none⟩) lro⟩
  rw [e2]; exact h1
theorem impl_sizes.mem9 {w : World} {po pb go co ro cb ro8 cb8 nd : Nat} (hp : w.heap.size ≤ po ∧ w.heap.size ≤ pb ∧ po ≠ pb ∧ po ≠ go ∧ pb ≠ go) {out : List Int} {rows : List (List Int)} {wr w8 : World} (hM : impl_sizes.c.Mem w po pb go co ro cb out rows wr)
  (hs : Kd.S (Kd.slice 3 (Kd.int .i64)) 37 w8 w.heap.size (fun k => k ≠ go ∧ k ≠ po ∧ k ≠ pb) (.slice (some ⟨ro8, 0, none⟩) (rows ++ [[]]).length cb8) (rows ++ [[]])) (hb : Below w.heap.size w w8) (hg : (wr.drewN nd).grownBy w8 (Value.slice (some ⟨ro, 0, none⟩) rows.length cb).ownBlock) :
  impl_sizes.c.Mem w po pb go co ro8 cb8 out (rows ++ [[]]) (w8.setCell ⟨pb, 0, none⟩ (.slice (some ⟨ro8, 0, none⟩) (rows ++ [[]]).length cb8)) := by
 obtain ⟨h1, h2, h3, h4, h5⟩ := hM; obtain ⟨p1, p2, p3, p4, p5⟩ := hp
 obtain ⟨q1, q2, q3⟩ := h4.elim (fun f h => h.1 ro (by simp [Value.ownBlock]))
 have hro : (Value.slice (some ⟨ro, 0, none⟩) rows.length cb).ownBlock = some ro := by simp [Value.ownBlock]
 rw [hro] at hg
 have b2 := (hg.block pb (blk_lt h2) (by simpa using q3.symm)).trans h2
 refine ⟨?_, ?_, ?_, ?_, ?_⟩
 ·exact blk_far (p := ⟨pb, 0, none⟩) ((hg.block po (blk_lt h1) (by simpa using q2.symm)).trans h1) p3 _
 ·exact blk_set b2 0 (.slice (some ⟨ro8, 0, none⟩) (rows ++ [[]]).length cb8)
 ·exact Kd.R_far (p := ⟨pb, 0, none⟩) (Kd.R_grown (Kd.R_drewN h3 nd) hg (fun k hk => by rw [hk]; simpa using q1.symm)) (fun k hk => by rw [hk]; exact p5.symm) _
 ·exact Kd.S_far (p := ⟨pb, 0, none⟩) hs (fun k hk => hk.2.2) _
 ·exact hb.setCell (p := ⟨pb, 0, none⟩) p2 _
def impl_sizes.Pd (rows : List (List Int)) (s a i j : Nat) (f g : Int) : Prop :=
 (∃ a', 1 ≤ a' ∧ a' < a ∧ f ∈ rows.getD a' [] ∧ g ∈ rows.getD (s - a') []) ∨ (f ∈ (rows.getD a []).take i ∧ g ∈ rows.getD (s - a) []) ∨ ((rows.getD a [])[i]? = some f ∧ g ∈ (rows.getD (s - a) []).take j)
theorem impl_sizes.Pd_start {rows : List (List Int)} {s a : Nat} {f g : Int} (h : impl_sizes.Pd rows s a 0 0 f g) : ∃ a', 1 ≤ a' ∧ a' < a ∧ f ∈ rows.getD a' [] ∧ g ∈ rows.getD (s - a') [] := by
 rcases h with h | ⟨h, _⟩ | ⟨_, h⟩
 ·exact h
 ·simp at h
 ·simp at h
theorem impl_sizes.mem_take {l : List Int} {j : Nat} {g : Int} (h : g ∈ l.take (j + 1)) : g ∈ l.take j ∨ l[j]? = some g := by
 rw [List.take_add_one, List.mem_append] at h
 refine h.imp id (fun h => ?_)
 cases hq : l[j]? with
 | none => rw [hq] at h; cases h
 | some q => rw [hq] at h; simp at h; rw [h]
theorem impl_sizes.Pd_j {rows : List (List Int)} {s a i j : Nat} {f g : Int} (h : impl_sizes.Pd rows s a i (j + 1) f g) : impl_sizes.Pd rows s a i j f g ∨ ((rows.getD a [])[i]? = some f ∧ (rows.getD (s - a) [])[j]? = some g) := by
 rcases h with h | h | ⟨h1, h2⟩
 ·exact .inl (.inl h)
 ·exact .inl (.inr (.inl h))
 ·rcases impl_sizes.mem_take h2 with h3 | h3
  ·exact .inl (.inr (.inr ⟨h1, h3⟩))
  ·exact .inr ⟨h1, h3⟩
theorem impl_sizes.Pd_i {rows : List (List Int)} {s a i : Nat} {f g : Int} (h : impl_sizes.Pd rows s a (i + 1) 0 f g) : impl_sizes.Pd rows s a i (rows.getD (s - a) []).length f g := by
 rcases h with h | ⟨h1, h2⟩ | ⟨_, h2⟩
 ·exact .inl h
 ·rcases impl_sizes.mem_take h1 with h3 | h3
  ·exact .inr (.inl ⟨h3, h2⟩)
  ·exact .inr (.inr ⟨h3, by rw [List.take_length]; exact h2⟩)
 ·simp at h2
theorem impl_sizes.Pd_a {rows : List (List Int)} {s a a' : Nat} {f g : Int} (h1 : 1 ≤ a') (h2 : a' < a + 1) (h3 : f ∈ rows.getD a' []) (h4 : g ∈ rows.getD (s - a') []) : impl_sizes.Pd rows s a (rows.getD a []).length 0 f g := by
 by_cases e : a' = a
 ·subst e; exact .inr (.inl ⟨by rw [List.take_length]; exact h3, h4⟩)
 ·exact .inl ⟨a', h1, by omega, h3, h4⟩
theorem impl_sizes.rd_get {l : List Int} {i : Nat} (h : i < l.length) : l[i]? = some (rd l (i : Int)) := by
 simp [rd, List.getD_eq_getElem?_getD, h]
def impl_sizes.zero (n : Nat) : List Int := ((List.replicate (szN n) (-1)).set 0 0).set (szN n - 1) 0
theorem impl_sizes.zero_ok {n : Nat} (hn : n ≤ 3) : SzI n 1 (-1) (impl_sizes.zero n) [] := by
 have h2 : 2 ≤ szN n := by
  have := Nat.pow_le_pow_right (show 0 < 2 by decide) (Nat.one_le_two_pow (n := n))
  simpa [szN] using this
 have hl : (impl_sizes.zero n).length = szN n := by simp [impl_sizes.zero]
 have hr : ∀ x, x < szN n → rd (impl_sizes.zero n) (x : Int) = if x + 1 = szN n then 0 else if x = 0 then 0 else -1 := fun x hx => by
  unfold impl_sizes.zero
  rw [szrd_set (by simp; omega), szrd_set (by simp; omega)]
  by_cases e : x + 1 = szN n
  ·rw [if_pos (by omega), if_pos e]
  ·rw [if_neg (by omega), if_neg e]
   by_cases e0 : x = 0
   ·rw [if_pos e0, if_pos e0]
   ·rw [if_neg e0, if_neg e0]
    simp [rd, List.getD_eq_getElem?_getD, hx]
 refine ⟨hl, fun x hx h0 => ?_, fun x hx h0 h1 => by omega, fun x hx h1 => ?_, fun x hx => (by cases hx), ?_⟩
 ·rw [hr x hx]
  rcases (szT_zero hn hx).mp h0 with e | e
  ·rw [if_pos e]; exact ite_self _
  ·rw [if_pos e]
 ·have hz := szT_zero hn hx
  left
  rw [hr x hx, if_neg (fun e => by have := hz.mpr (.inr e); omega), if_neg (fun e => by have := hz.mpr (.inl e); omega)]
 ·have := cnt_le (szIs n (-1) (impl_sizes.zero n)) (szN n)
  unfold szU; simp; omega
set_option maxHeartbeats 8000000 in
theorem impl_sizes.nat (n : Nat) (hn : n ≤ 3) (w : World) :
  Calls Tryz.prog 43 #[.int .i64 (n : Int)] w fun e w' => ∃ v0_ : Value, e = .returned v0_ ∧ Kd.R (Kd.int .i64) 3 w' w.heap.size (fun _ => True) v0_ (szL n) ∧ Below w.heap.size w w' := by
 obtain ⟨N, hN⟩ : ∃ N, N = szN n := ⟨_, rfl⟩
 have hN4 : (N : Int) = 2 ∨ (N : Int) = 4 ∨ (N : Int) = 16 ∨ (N : Int) = 256 := by
  subst hN
  rcases n with _ | _ | _ | _ | n
  ·exact .inl rfl
  ·exact .inr (.inl rfl)
  ·exact .inr (.inr (.inl rfl))
  ·exact .inr (.inr (.inr rfl))
  ·omega
 have e11 : wrap64 (2 ^ min (IntKind.u64.wrap (2 ^ n)).toNat 64) = (N : Int) := by
  subst hN
  rcases n with _ | _ | _ | _ | n
  ·decide +kernel
  ·decide +kernel
  ·decide +kernel
  ·decide +kernel
  ·omega
 have hN1 : wrap64 ((N : Int) - 1) = ((N - 1 : Nat) : Int) := by rw [w64 (by omega) (by omega)]; omega
 have hNp : 2 ≤ N := by omega
 have hN256 : N ≤ 256 := by omega
 have E11 := A_ e11
 have hfld : ∀ (a b : Int) (W : World), (Instr.field 25 (.agg #[.int .i64 a, .int .i64 b]) 1).run Tryz.prog W = .ok (.int .i64 b) W := fun _ _ _ => by kernel_rfl
 obtain ⟨Wa, hWa⟩ : ∃ Wa, Wa = w.alloc (.cells #[.int .i64 (-1)] 3) := ⟨_, rfl⟩
 have hza : Wa.heap.size = w.heap.size + 1 := by rw [hWa]; simp
 have hBa : Below w.heap.size w Wa := by rw [hWa]; exact (Below.refl _ _).alloc (Nat.le_refl _) _
 have hCa : Kd.C (Kd.int .i64) Wa (some ⟨w.heap.size, 0, none⟩) 1 [-1] := by
  have h := Kd.R_of_own (h1 := fun _ => rfl) (ok := fun _ => True) (own_lit w w.heap.size 3 .i64 [-1] (Nat.le_refl _) (by simp)) (fun _ _ => trivial)
  have h2 := (Kd.R_reads' h).2.2
  rw [hWa]; exact h2
 have hRP : slices_Repeat_int_int.f [-1] (N : Int) = some (List.replicate N (-1)) := by
  unfold slices_Repeat_int_int.f
  rw [if_pos ⟨rfl, hN4⟩, Int.toNat_natCast]; rfl
 have CR := A_ (slices_Repeat_int_int.calls (some ⟨w.heap.size, 0, none⟩) 1 [-1] (N : Int) _ Wa hCa (by simp) hRP)
 have HWA := A_ hWa; have HBA := A_ hBa; have HZA := A_ hza; have HNN := A_ hN; clear e11 hN4 hCa hRP hza hBa hWa hN
 go_enter Tryz.func43, Tryz.ntmps43
 go_wp2_with (first | (go_at_call 72; rw [E11.out, ← HWA.out]; refine CR.out.mono ?_; rintro e w1 ⟨v0, rfl, hR, hb⟩; obtain ⟨gq, co, hv, hgb, hgl, _⟩ := Kd.R_form hR (by rw [List.length_replicate]; omega); rw [List.length_replicate] at hv; subst hv; have HR1 := A_ hR; have HB1 := A_ (HBA.out.trans (hb.mono HBA.out.size)); have HGB := A_ hgb; have HGL := A_ hgl; have HZ1 := A_ hb.size; clear hR hb hgb hgl))
 obtain ⟨po, hpo⟩ : ∃ po, po = w1.heap.size := ⟨_, rfl⟩
 obtain ⟨W3, hW3⟩ : ∃ W3, W3 = w1.alloc (.cells #[.slice (some ⟨gq, 0, none⟩) N co] 37) := ⟨_, rfl⟩
 rw [← hW3, ← hpo]
 have b3 : W3.heap[po]? = some (.cells #[.slice (some ⟨gq, 0, none⟩) N co] 37 (0, 0)) := by rw [hW3, hpo]; exact blk_new w1 _
 have hR3 : Kd.R (Kd.int .i64) 3 W3 Wa.heap.size (fun _ => True) (.slice (some ⟨gq, 0, none⟩) N co) (List.replicate N (-1)) := by rw [hW3]; exact Kd.R_alloc HR1.out _
 have hB3 : Below w.heap.size w W3 := by rw [hW3]; exact below_alloc HB1.out _
 have hz3 : W3.heap.size = po + 1 := by rw [hW3, hpo]; simp
 have c3 : W3.cell? ⟨po, 0, none⟩ = some (.slice (some ⟨gq, 0, none⟩) N co) := blk_cell b3 0
 have hrp : ∀ i : Nat, i < N → rdOf 0 (List.replicate N (-1)) (i : Int) = -1 := fun i hi => by simp [rdOf, List.getD_eq_getElem?_getD, hi]
 obtain ⟨a0, f0⟩ := Kd.R_celln 0 hR3 ((0 : Nat) : Int) (by omega) (by omega)
 obtain ⟨a1, f1⟩ := Kd.R_celln 0 hR3 ((N - 1 : Nat) : Int) (by omega) (by omega)
 rw [hrp 0 (by omega), Int.toNat_natCast] at a0
 rw [hrp (N - 1) (by omega), Int.toNat_natCast] at a1
 rw [Int.toNat_natCast] at f0 f1
 have t1 : ((N : Int) - 1).toNat = N - 1 := by omega
 have t2 : (0 : Int) ≤ (N : Int) - 1 := by omega
 have t3 : (N : Int) - 1 < (N : Int) := by omega
 have t4 : (0 : Int) < (N : Int) := by omega
 have hgp : gq < po := by have := HGL.out; omega
 have gne : gq ≠ po := by omega
 have HGP := A_ hgp; clear hgp; have HB3 := A_ hB3; have HR3 := A_ hR3; have HB4 := A_ b3; have HZ3 := A_ hz3; clear hB3 hR3 b3 hz3 hW3 hpo hrp HR1 HB1 HZ1
 go_region
 obtain ⟨W5, hW5⟩ : ∃ W5, W5 = ((W3.setCell ⟨gq, 0, none⟩ (.int .i64 0)).setCell ⟨gq, N - 1, none⟩ (.int .i64 0)).drew := ⟨_, rfl⟩
 rw [← hW5]
 have hgw : w.heap.size ≤ gq := by have h1 := HGB.out; have h2 := HZA.out; omega
 have b5 : W5.heap[po]? = some (.cells #[.slice (some ⟨gq, 0, none⟩) N co] 37 (0, 0)) := by
  rw [hW5]; exact blk_drew (blk_far (p := ⟨gq, N - 1, none⟩) (blk_far (p := ⟨gq, 0, none⟩) HB4.out gne.symm _) gne.symm _)
 have hB5 : Below w.heap.size w W5 := by
  rw [hW5]; exact below_drew ((HB3.out.setCell (p := ⟨gq, 0, none⟩) hgw _).setCell (p := ⟨gq, N - 1, none⟩) hgw _)
 have hz5 : W5.heap.size = po + 1 := by rw [hW5]; simpa [World.setCell] using HZ3.out
 have hR5 : Kd.R (Kd.int .i64) 3 W5 w.heap.size (fun k => k = gq) (.slice (some ⟨gq, 0, none⟩) N co) (impl_sizes.zero n) := by
  have h1 := Kd.R_putn HR3.out ((0 : Nat) : Int) 0
  have h2 := Kd.R_putn h1 ((N - 1 : Nat) : Int) 0
  rw [Int.toNat_natCast, Int.toNat_natCast] at h2
  have h3 := Kd.R_mono (Kd.R_tight rfl (Kd.R_lower (Kd.R_drew h2) (show w.heap.size ≤ Wa.heap.size by have := HZA.out; omega))) (ok' := fun k => k = gq) (fun k hk => by simpa [Value.ownBlock] using hk)
  rw [hW5]; unfold impl_sizes.zero; rw [← HNN.out]; exact h3
 have hwp : w.heap.size ≤ po := by have h1 := HGP.out; omega
 obtain ⟨W7, hW7⟩ : ∃ W7, W7 = (W5.alloc (.cells #[.slice none 0 0, .slice none 0 0] 37)).alloc (.cells #[.slice (some ⟨po + 1, 0, none⟩) 2 2] 79) := ⟨_, rfl⟩
 have hM7 : impl_sizes.c.Mem w po (po + 1 + 1) gq co (po + 1) 2 (impl_sizes.zero n) [[], []] W7 := by
  have hl : (impl_sizes.zero n).length = N := by rw [HNN.out]; simp [impl_sizes.zero]
  unfold impl_sizes.c.Mem
  rw [hl, hW7]
  refine ⟨blk_alloc (blk_alloc b5 _) _, ?_, Kd.R_alloc (Kd.R_alloc hR5 _) _, ?_, below_alloc (below_alloc hB5 _) _⟩
  ·have := blk_new (W5.alloc (.cells #[.slice none 0 0, .slice none 0 0] 37)) (.cells #[.slice (some ⟨po + 1, 0, none⟩) 2 2] 79)
   simpa [hz5] using this
  ·have := rows_two (ti := 3) (ts := 37) (base := w.heap.size) (W := W5) (ok0 := fun _ => False) (ok1 := fun _ => False) (ok := fun k => k ≠ gq ∧ k ≠ po ∧ k ≠ po + 1 + 1) (Kd.R_nil _ _ _ _ _) (Kd.R_nil _ _ _ _ _) (fun k h => h.elim) (fun k h => h.elim) (fun k h => h.elim) (by have := HGP.out; rw [hz5]; refine ⟨?_, ?_, ?_⟩ <;> omega) (by omega)
   rw [hz5] at this
   exact Kd.S_alloc this _
 have HM7 := A_ hM7; have HW7 := A_ hW7
 have c5 : W5.cell? ⟨po, 0, none⟩ = some (.slice (some ⟨gq, 0, none⟩) N co) := blk_cell b5 0
 have HWP := A_ hwp; clear hM7 hW7 hB5 hR5 b5 hW5 c3 a0 f0 a1 f1 HB3 HR3 HB4 hgw hwp
 go_wp2
 rw [← HW7.out]
 have hpp : Aside0 (w.heap.size ≤ po ∧ w.heap.size ≤ po + 1 + 1 ∧ po ≠ po + 1 + 1 ∧ po ≠ gq ∧ po + 1 + 1 ≠ gq) := ⟨by have := HWP.out; refine ⟨by omega, by omega, by omega, gne.symm, ?_⟩; have := HGP.out; omega⟩
 generalize po + 1 + 1 = pb at *
 generalize po + 1 = ro0 at *
 clear c5
 go_loopg [31] n (fun gg v31 wr => ∃ (i : Nat) (out fr : List Int), i ≤ n ∧ n - i ≤ gg ∧ v31 = .int .i64 (i : Int) ∧ Aside0 (impl_sizes.c.Mem w po pb gq co ro0 2 out [[], fr] wr) ∧ Aside0 (SzI n 1 (-1) out fr) ∧ Aside0 (∀ j, j < i → szIs n (-1) out (szVar n j) = false ∧ szIs n (-1) out (szN n - 1 - szVar n j) = false))
 case atStart => exact ⟨0, impl_sizes.zero n, [], Nat.zero_le _, by omega, rfl, HM7, ⟨impl_sizes.zero_ok hn⟩, ⟨fun j hj => by omega⟩⟩
 case round =>
  clear HM7; obtain ⟨i, out, fr, hi, hg, rfl, HM, HI, HV⟩ := hrel
  by_cases hlt : i < n
  ·have hltz : (i : Int) < (n : Int) := by omega
   obtain ⟨v1, v2, v3, v4⟩ := szVar_ok hn hlt
   have hv5 : szN n - 1 - szVar n i < szN n := by have := szN_pos (n := n); omega
   have hNle : szN n ≤ 256 := by rw [← HNN.out]; exact hN256
   have T1 := A_ (fun W (h : impl_sizes.c.Mem w po pb gq co ro0 2 out ([[]] ++ [fr]) W) => impl_sizes.tk (n := n) (s := 1) (by omega) (rows := [[]]) rfl v1 (by omega) hNle hpp.out h HI.out)
   have T2 := A_ (fun W (h : impl_sizes.c.Mem w po pb gq co ro0 2 (szTake n 1 (-1) (out, fr) (szVar n i)).1 ([[]] ++ [(szTake n 1 (-1) (out, fr) (szVar n i)).2]) W) => impl_sizes.tk (n := n) (s := 1) (by omega) (rows := [[]]) rfl hv5 (by omega) hNle hpp.out h (szTake_keep (u := -1) (by omega) (by omega) (o := (out, fr)) HI.out v1 (by omega)))
   have HV2 := A_ (szLet_step (u := -1) hn (by omega) (o := (out, fr)) HI.out.len hlt HV.out)
   have hvar : impl_variable.f (n : Int) (i : Int) = some ((n : Int), ((szVar n i : Nat) : Int)) := by
    unfold impl_variable.f
    rw [if_pos (by omega)]; simp
   have CV := A_ (fun W => impl_variable.calls (n : Int) (i : Int) _ _ W hvar)
   have ex : Go.bits .xor .i64 ((szVar n i : Nat) : Int) ((N : Int) - 1) = ((szN n - 1 - szVar n i : Nat) : Int) := by
    rw [← v4, ← HNN.out, show (N : Int) - 1 = ((N - 1 : Nat) : Int) by omega]
    exact xor_nat (by rw [← HNN.out] at v1; omega) (by omega)
   clear hvar v2 v3 v4 v1 hv5
   generalize szVar n i = x at *
   generalize szN n - 1 - x = y at *
   go_wp2_with (first | (go_at_call 71; refine (CV.out _).mono ?_; rintro e w4 ⟨rfl, hb4⟩; have HM4 := A_ (HM.out.below hb4); clear hb4) | (go_at_call 73; first | (refine (T2.out _ HM5.out).mono ?_; rintro e w6 ⟨rfl, hm6, hi6, _⟩; have HM6 := A_ hm6; have HI6 := A_ hi6; clear hm6 hi6) | (refine (T1.out _ HM4.out).mono ?_; rintro e w5 ⟨rfl, hm5, _, _⟩; have HM5 := A_ hm5; clear hm5)))
   go_roundg (n - (i + 1))
   case measure => omega
   case rel => exact ⟨i + 1, _, _, by omega, by omega, by go_num, HM6, HI6, HV2⟩
  ·have hin : i = n := by omega
   have hgo : decide ((i : Int) < (n : Int)) = false := decide_eq_false (by omega)
   have hgo2 : decide (i < n) = false := decide_eq_false (by omega)
   have hdone := szLet_done (u := -1) hn (out := out) (fun j hj => HV.out j (by omega))
   have HI2 := A_ (HI.out.next (Nat.le_refl _) hdone)
   have HR2 := A_ (SzR.push (u := -1) (by omega) (Nat.le_refl _) (SzR.one n) HI.out hdone)
   clear hdone HI HV hin hlt hi hg; clear CR HWA HBA HZA HGB HGL t1 t2 t3 t4 gne HGP HWP HZ3 hz5 HW7 E11 hN1 hfld
   go_wp2
   go_loopg [9] 12 (fun gg v9 wr => ∃ (s : Nat) (out : List Int) (rows : List (List Int)) (ro cb : Nat), 2 ≤ s ∧ s ≤ 11 ∧ 12 - s ≤ gg ∧ v9 = .int .i64 (s : Int) ∧ Aside0 (impl_sizes.c.Mem w po pb gq co ro cb out rows wr) ∧ Aside0 (SzI n s (-1) out []) ∧ Aside0 (SzR n s rows))
   case atStart => exact ⟨2, out, [[], fr], ro0, 2, Nat.le_refl _, by omega, by omega, rfl, HM, HI2, HR2⟩
   case round =>
    clear HM HI2 HR2; obtain ⟨s, out, rows, ro, cb, hs2, hs11, hg, rfl, HM, HI, HR⟩ := hrel
    have hlen : out.length = N := by rw [HI.out.len, HNN.out]
    obtain ⟨k, b, hf, hbb⟩ := impl_sizes.has out (-1) (by omega)
    have CC := A_ (fun W hc => slices_Contains_int_int.calls k (some ⟨gq, 0, none⟩) co out (-1) b W hc (Kd.R_reads' HM.out.2.2.1).2.1 hf)
    have CI := A_ (Kd.R_reads' HM.out.2.2.1).2.2
    have c0 : wr.cell? ⟨po, 0, none⟩ = some (.slice (some ⟨gq, 0, none⟩) out.length co) := blk_cell HM.out.1 0
    have HBB := A_ hbb; have HLN := A_ hlen; clear hf hbb hlen
    cases b with
    | false =>
     go_wp2_with (first | (go_at_call 74; refine (CC.out _ CI.out).mono ?_; rintro e w4 ⟨rfl, ⟨nd, rfl⟩⟩))
     go_ret
     have hfin : out = szL n := HI.out.full (fun x hx => by
      have h := HBB.out
      rw [szIs, Bool.and_eq_false_iff]
      right
      rw [beq_eq_false_iff_ne]
      intro e
      have := h.mpr ⟨x, by rw [HLN.out, HNN.out]; exact hx, e⟩
      cases this)
     rw [← hfin]
     exact ⟨_, rfl, Kd.R_mono (Kd.R_drewN HM.out.2.2.1 _) (fun _ _ => trivial), pw_below_drewN HM.out.2.2.2.2 _⟩
    | true =>
     have hs10 : s ≤ 10 := by
      rcases Nat.lt_or_ge 10 s with h | h
      ·obtain ⟨x, h1, h2⟩ := HBB.out.mp rfl
       have hx : x < szN n := by rw [← HI.out.len]; exact h1
       have h3 := HI.out.last hn h (by omega) x hx
       rw [szIs, h2, beq_self_eq_true, Bool.and_true, decide_eq_false_iff_not, Classical.not_not] at h3
       have := HI.out.con x hx h3
       omega
      ·exact h
     have q0 : wr.cell? ⟨pb, 0, none⟩ = some (.slice (some ⟨ro, 0, none⟩) rows.length cb) := blk_cell HM.out.2.1 0
     have z0 := blk_frozen HM.out.2.1 0
     have hfr : ∀ k, wr.heap.size ≤ k → k ≠ gq ∧ k ≠ po ∧ k ≠ pb := fun k hk => by
      have h1 := Kd.R_lt HM.out.2.2.1 gq (by simp [Value.ownBlock])
      have h2 := blk_lt HM.out.1
      have h3 := blk_lt HM.out.2.1
      refine ⟨?_, ?_, ?_⟩ <;> omega
     have HFR := A_ hfr
     have HRL := A_ HR.out.len
     clear hfr
     go_wp2_with (first | (go_at_call 74; refine (CC.out _ CI.out).mono ?_; rintro e w4 ⟨rfl, ⟨nd, rfl⟩⟩) | ((with_reducible refine gate_builtin (b := .append) (xs := #[.tmp 51, .tmp 52]) rfl ?_); at_builtin; refine Kd.S_append (Kd.slice 3 (Kd.int .i64)) (w0 := w) (W := wr.drewN nd) w.heap.size rfl (.tmp 51) (.tmp 52) 79 37 (.slice none 0 0) 24 rfl Tryz.underlying79 info37 rfl (by decide) (by omega) (.slice (some ⟨ro, 0, none⟩) rows.length cb) rows [] [.slice none 0 0] (fun k => k ≠ gq ∧ k ≠ po ∧ k ≠ pb) (fun _ => False) rfl rfl ⟨_, rfl, Kd.R_nil _ _ _ _ _⟩ (fun _ h => h.elim) HFR.out (Kd.S_mono (Kd.S_drewN HM.out.2.2.2.1 _) (fun _ h => ⟨h, fun h => h⟩)) (pw_below_drewN HM.out.2.2.2.2 _) HM.out.2.2.2.2.size (by have := HRL.out; omega) ?_; intro v8 w8 hs8 hb8 hg8 hat8; obtain ⟨ro8, cb8, hv8, _, hl8, _⟩ := Kd.S_form hs8 (by simp); subst hv8; have q8 : w8.cell? ⟨pb, 0, none⟩ = some (.slice (some ⟨ro, 0, none⟩) rows.length cb) := hg8.cell q0 (fun e => by have h := HM.out.2.2.2.1.elim (fun f h => h.1 ro (by simp [Value.ownBlock])); simp [Value.ownBlock] at e; exact h.2.2 e.symm); have z8 : w8.frozen? ⟨pb, 0, none⟩ = false := (hg8.frozen_far _ (blk_lt HM.out.2.1) (fun e => by have h := HM.out.2.2.2.1.elim (fun f h => h.1 ro (by simp [Value.ownBlock])); simp [Value.ownBlock] at e; exact h.2.2 e.symm)).trans z0; have HM9 := A_ (impl_sizes.mem9 hpp.out HM.out hs8 hb8 hg8); clear hs8 hb8 hg8 hat8))
     have HI9 := A_ HI.out
     clear q8 z8 q0 z0 c0 hl8 hgo hgo2
     go_loopg [10] 12 (fun gg v10 wr => ∃ (a : Nat) (out fr : List Int), 1 ≤ a ∧ a ≤ s ∧ 12 - a ≤ gg ∧ v10 = .int .i64 (a : Int) ∧ Aside0 (impl_sizes.c.Mem w po pb gq co ro8 cb8 out (rows ++ [fr]) wr) ∧ Aside0 (SzI n s (-1) out fr) ∧ Aside0 (∀ a', 1 ≤ a' → a' < a → ∀ f, f ∈ rows.getD a' [] → ∀ g, g ∈ rows.getD (s - a') [] → szCov n (-1) out f g))
     case atStart => exact ⟨1, out, [], Nat.le_refl _, by omega, by omega, rfl, ⟨by first | exact HM9.out | simpa only [List.length_append, List.length_cons, List.length_nil] using HM9.out⟩, HI9, ⟨fun a' h1 h2 => by omega⟩⟩
     case round =>
      clear HM9 HI9 HM HI HBB HFR CC CI HLN; obtain ⟨a, out, fr, ha1, has, hg3, rfl, HM, HI, HC⟩ := hrel
      by_cases hlt : 2 * a ≤ s
      ·have hltz : 2 * (a : Int) ≤ (s : Int) := by omega
       have hrl := HRL.out
       have hra : (rows ++ [fr]).getD a [] = rows.getD a [] := by rw [szgetD_snoc, if_pos (by omega)]
       obtain ⟨A1, cA, k1, _, _, _⟩ := rows_cell HM.out.2.2.2.1 a (by rw [List.length_append, hrl]; simp; omega)
       rw [hra] at k1
       have q0 : wr.cell? ⟨pb, 0, none⟩ = some (.slice (some ⟨ro8, 0, none⟩) (rows ++ [fr]).length cb8) := blk_cell HM.out.2.1 0
       have ha3 : (a : Int) < (rows.length : Int) + 1 := by omega
       have HC4 := A_ (fun f g (h : impl_sizes.Pd rows s a 0 0 f g) => by obtain ⟨a', b1, b2, b3, b4⟩ := impl_sizes.Pd_start h; exact HC.out a' b1 b2 f b3 g b4)
       clear hrl hra HC
       obtain ⟨la, hla⟩ : ∃ la, la = (rows.getD a []).length := ⟨_, rfl⟩
       rw [← hla] at k1
       have K1 := A_ k1
       have hla9 : la ≤ 256 := by have h1 := HR.out.row a (by omega); rw [← hla, ← HNN.out] at h1; omega
       have HLA := A_ hla; clear hla
       go_wp2
       go_loopg [65] la (fun gg v65 wr => ∃ (i : Nat) (out fr : List Int), i ≤ la ∧ la - i ≤ gg ∧ v65 = .int .i64 (i : Int) ∧ Aside0 (impl_sizes.c.Mem w po pb gq co ro8 cb8 out (rows ++ [fr]) wr) ∧ Aside0 (SzI n s (-1) out fr) ∧ Aside0 (∀ f g, impl_sizes.Pd rows s a i 0 f g → szCov n (-1) out f g) ∧ Aside0 (wr.cell? ⟨ro8, a, none⟩ = some (.slice A1 la cA)))
       case atStart => exact ⟨0, out, fr, Nat.zero_le _, by omega, rfl, HM, HI, HC4, K1⟩
       case round =>
        clear HM HI HC4 K1 k1 q0; obtain ⟨i, out, fr, hi, hg4, rfl, HM, HI, HC, K1⟩ := hrel
        by_cases hlt4 : i < la
        ·have hltz4 : (i : Int) < (la : Int) := by omega
         have hrl := HRL.out
         have hra : (rows ++ [fr]).getD a [] = rows.getD a [] := by rw [szgetD_snoc, if_pos (by omega)]
         have hrb : (rows ++ [fr]).getD (s - a) [] = rows.getD (s - a) [] := by rw [szgetD_snoc, if_pos (by omega)]
         obtain ⟨g1, d1, k2, k3⟩ := rows_elem HM.out.2.2.2.1 a (by rw [List.length_append, hrl]; simp; omega) i (by rw [hra, ← HLA.out]; exact hlt4)
         rw [hra, ← HLA.out] at k2
         rw [hra] at k3
         have hA1 := K1.out.symm.trans k2
         injection hA1 with hA1
         injection hA1 with hA1 _ hcA
         subst hA1; subst hcA
         obtain ⟨B1, cB, k4, _, _, _⟩ := rows_cell HM.out.2.2.2.1 (s - a) (by rw [List.length_append, hrl]; simp; omega)
         rw [hrb] at k4
         have hri := impl_sizes.rd_get (l := rows.getD a []) (i := i) (by rw [← HLA.out]; exact hlt4)
         obtain ⟨_, p, hp, hpe, hpT⟩ := HR.out.mem a (rd (rows.getD a []) (i : Int)) (by omega) (List.mem_of_getElem? hri)
         rw [hpe] at k3 hri
         have q0 : wr.cell? ⟨pb, 0, none⟩ = some (.slice (some ⟨ro8, 0, none⟩) (rows ++ [fr]).length cb8) := blk_cell HM.out.2.1 0
         obtain ⟨lb, hlb⟩ : ∃ lb, lb = (rows.getD (s - a) []).length := ⟨_, rfl⟩
         rw [← hlb] at k4
         have e4 : ((s : Int) - (a : Int)).toNat = s - a := by omega
         have e5 : (0 : Int) ≤ (s : Int) - (a : Int) := by omega
         have e6 : (s : Int) - (a : Int) < (rows.length : Int) + 1 := by omega
         have e7 : ((s - a : Nat) : Int) < (rows.length : Int) + 1 := by omega
         have K2 := A_ k4
         have hlb9 : lb ≤ 256 := by have h1 := HR.out.row (s - a) (by omega); rw [← hlb, ← HNN.out] at h1; omega
         have HLB := A_ hlb
         have HP := A_ (And.intro hp (And.intro hpT hri))
         clear hrl hra hrb hlb hp hpe hpT hri
         go_wp2
         clear e4 e5 e6 e7
         have HC5 := A_ HC.out
         go_loopg [76] lb (fun gg v76 wr => ∃ (j : Nat) (out fr : List Int), j ≤ lb ∧ lb - j ≤ gg ∧ v76 = .int .i64 (j : Int) ∧ Aside0 (impl_sizes.c.Mem w po pb gq co ro8 cb8 out (rows ++ [fr]) wr) ∧ Aside0 (SzI n s (-1) out fr) ∧ Aside0 (∀ f g, impl_sizes.Pd rows s a i j f g → szCov n (-1) out f g) ∧ Aside0 (wr.cell? ⟨ro8, a, none⟩ = some (.slice (some ⟨g1, 0, none⟩) la cA)) ∧ Aside0 (wr.cell? ⟨ro8, s - a, none⟩ = some (.slice B1 lb cB)))
         case atStart => exact ⟨0, out, fr, Nat.zero_le _, by omega, rfl, HM, HI, HC5, K1, K2⟩
         case round =>
          clear HM HI HC HC5 K1 K2 k2 k3 k4 q0; obtain ⟨j, out, fr, hj, hg5, rfl, HM, HI, HC, K1, K2⟩ := hrel
          by_cases hlt5 : j < lb
          ·have hltz5 : (j : Int) < (lb : Int) := by omega
           have hrl := HRL.out
           have hrb : (rows ++ [fr]).getD (s - a) [] = rows.getD (s - a) [] := by rw [szgetD_snoc, if_pos (by omega)]
           obtain ⟨g2, d2, k2, k3⟩ := rows_elem HM.out.2.2.2.1 (s - a) (by rw [List.length_append, hrl]; simp; omega) j (by rw [hrb, ← HLB.out]; exact hlt5)
           rw [hrb, ← HLB.out] at k2
           rw [hrb] at k3
           have hB1 := K2.out.symm.trans k2
           injection hB1 with hB1
           injection hB1 with hB1 _ hcB
           subst hB1; subst hcB
           have hrj := impl_sizes.rd_get (l := rows.getD (s - a) []) (i := j) (by rw [← HLB.out]; exact hlt5)
           obtain ⟨_, q, hq, hqe, hqT⟩ := HR.out.mem (s - a) (rd (rows.getD (s - a) []) (j : Int)) (by omega) (List.mem_of_getElem? hrj)
           rw [hqe] at k3 hrj
           obtain ⟨hp, hpT, hri⟩ := HP.out
           obtain ⟨t1, t2⟩ := szT_pair hn hp hq (by omega) (by omega)
           have l1 : p &&& q < szN n := Nat.lt_of_le_of_lt Nat.and_le_left hp
           have l2 : p ||| q < szN n := Nat.or_lt_two_pow hp hq
           have hNle : szN n ≤ 256 := by rw [← HNN.out]; exact hN256
           have T1 := A_ (fun W (h : impl_sizes.c.Mem w po pb gq co ro8 cb8 out (rows ++ [fr]) W) => impl_sizes.tk (n := n) (s := s) (by omega) hrl l1 (by omega) hNle hpp.out h HI.out)
           have T2 := A_ (fun W (h : impl_sizes.c.Mem w po pb gq co ro8 cb8 (szTake n s (-1) (out, fr) (p &&& q)).1 (rows ++ [(szTake n s (-1) (out, fr) (p &&& q)).2]) W) => impl_sizes.tk (n := n) (s := s) (by omega) hrl l2 (by omega) hNle hpp.out h (szTake_keep (u := -1) (by omega) (by omega) (o := (out, fr)) HI.out l1 (by omega)))
           obtain ⟨cv1, cv2⟩ := szPair_cov (u := -1) (s := s) (by omega) (by omega) (o := (out, fr)) HI.out.len hp hq
           have HC2 : Aside0 (∀ f g, impl_sizes.Pd rows s a i (j + 1) f g → szCov n (-1) (szPair n s (-1) (out, fr) p q).1 f g) := ⟨fun f g h => by
            rcases impl_sizes.Pd_j h with h | ⟨h1, h2⟩
            ·exact cv2 f g (HC.out f g h)
            ·have e1 : f = (p : Int) := by rw [hri] at h1; exact (Option.some.inj h1).symm
             have e2 : g = (q : Int) := by rw [hrj] at h2; exact (Option.some.inj h2).symm
             rw [e1, e2]; exact cv1⟩
           have ea : Go.bits .and .i64 (p : Int) (q : Int) = ((p &&& q : Nat) : Int) := and_nat (by omega) (by omega)
           have eo : Go.bits .or .i64 (p : Int) (q : Int) = ((p ||| q : Nat) : Int) := or_nat (by omega) (by omega)
           have hsa : a ≠ s ∧ s - a ≠ s := ⟨by omega, by omega⟩
           have HSA := A_ hsa
           unfold szPair at HC2
           clear cv1 cv2 hrl hrb hrj hq hqe hqT hp hpT hri t1 t2 l1 l2 hNle hsa
           generalize p &&& q = pa at *
           generalize p ||| q = pr at *
           go_wp2_with (first | (go_at_call 73; first | (refine (T2.out _ HM5.out).mono ?_; rintro e w6 ⟨rfl, hm6, hi6, hk6⟩; have HM6 := A_ hm6; have HI6 := A_ hi6; have HK6 := A_ hk6; clear hm6 hi6 hk6) | (refine (T1.out _ HM.out).mono ?_; rintro e w5 ⟨rfl, hm5, _, hk5⟩; have HM5 := A_ hm5; have HK5 := A_ hk5; clear hm5 hk5)))
           clear ea eo
           go_roundg (lb - (j + 1))
           case measure => omega
           case rel => exact ⟨j + 1, _, _, by omega, by omega, by push_cast; rfl, HM6, HI6, HC2, ⟨((HK6.out a HSA.out.1).trans (HK5.out a HSA.out.1)).trans K1.out⟩, ⟨((HK6.out _ HSA.out.2).trans (HK5.out _ HSA.out.2)).trans K2.out⟩⟩
          ·have hgo5 : decide ((j : Int) < (lb : Int)) = false := decide_eq_false (by omega)
           have hgo6 : decide (j < lb) = false := decide_eq_false (by omega)
           have hjl : j = lb := by omega
           go_wp2
           clear hgo5 hgo6
           go_roundg (la - (i + 1))
           case measure => omega
           case rel => exact ⟨i + 1, out, fr, by omega, by omega, by push_cast; rfl, HM, HI, ⟨fun f g h => HC.out f g (by rw [hjl, HLB.out]; exact impl_sizes.Pd_i h)⟩, K1⟩
        ·have hgo5 : decide ((i : Int) < (la : Int)) = false := decide_eq_false (by omega)
         have hgo6 : decide (i < la) = false := decide_eq_false (by omega)
         have hil : i = la := by omega
         go_wp2
         clear hgo5 hgo6
         go_roundg (12 - (a + 1))
         case measure => omega
         case rel => exact ⟨a + 1, out, fr, by omega, by omega, by omega, by push_cast; rfl, HM, HI, ⟨fun a' h1 h2 f h3 g h4 => HC.out f g (by rw [hil, HLA.out]; exact impl_sizes.Pd_a h1 h2 h3 h4)⟩⟩
      ·have hgo3 : decide (2 * (a : Int) ≤ (s : Int)) = false := decide_eq_false (by omega)
       have hgo4 : decide (2 * a ≤ s) = false := decide_eq_false (by omega)
       have hdone := szCov_done (u := -1) hn hs2 HR.out (out := out) (fun a' h1 h2 => HC.out a' h1 (by omega))
       have HI3 := A_ (HI.out.next (by omega) hdone)
       have HR3 := A_ (SzR.push (u := -1) (by omega) (by omega) HR.out HI.out hdone)
       clear hdone
       go_wp2
       clear hgo3 hgo4
       go_roundg (12 - (s + 1))
       case measure => omega
       case rel => exact ⟨s + 1, out, rows ++ [fr], ro8, cb8, by omega, by omega, by omega, by push_cast; rfl, HM, HI3, HR3⟩
theorem impl_sizes.calls (a0 : Int) (r : List Int) (w : World) (h : impl_sizes.f a0 = some r) :
  Calls Tryz.prog 43 #[.int .i64 a0] w fun e w' => ∃ v0_ : Value, e = .returned v0_ ∧ Kd.R (Kd.int .i64) 3 w' w.heap.size (fun _ => True) v0_ r ∧ Below w.heap.size w w' := by
 unfold impl_sizes.f at h
 by_cases hc : 0 ≤ a0 ∧ a0 ≤ 3
 ·rw [if_pos hc] at h
  obtain ⟨n, rfl⟩ := nat_of hc.1
  rw [Int.toNat_natCast] at h
  rw [← Option.some.inj h]
  exact impl_sizes.nat n (by omega) w
 ·rw [if_neg hc] at h; cases h
end Go.Proofs.YtfoopehlmnejaaaGreatDoor.Print
namespace Go.Proofs.YtfoopehlmnejaaaGreatDoor.Print
open Go.RowKit Go.Proofs.YtfoopehlmnejaaaGreatDoorW.PrintWords Go.Proofs.YtfoopehlmnejaaaGreatDoorW.PrintLast Go.Proofs.YtfoopehlmnejaaaGreatDoorW.PrintMore
attribute [local go_sem] max2_int min2_int max_two min_two max_three min_three max_four min_four   -- for this text's walks alone
set_option linter.unusedVariables false
set_option linter.unusedSimpArgs false
set_option maxHeartbeats 8000000
set_option maxRecDepth 100000
def impl_SmallestFormula.f (k : Nat) (a0_0 : Int) (a0_1 : Int) : Option (ByteArray × Bool) := (impl_isSmall.f a0_0 a0_1 3).bind fun t266 => (if t266 = true then ((impl_sizes.f a0_0).bind fun t267 => ((impl_Table_smallest.f k a0_0 a0_1 t267).bind fun t270 => (some (t270, true)))) else (some ((⟨#[]⟩ : ByteArray), false)))
theorem impl_SmallestFormula.calls (k : Nat) (a0_0 : Int) (a0_1 : Int) (r1 : ByteArray) (r2 : Bool) (w : World) (h : impl_SmallestFormula.f k a0_0 a0_1 = some (r1, r2)) :
  Calls Tryz.prog 6 #[.agg #[.int .i64 a0_0, .int .i64 a0_1]] w fun e w' => e = .returned (.tuple #[.string r1, .bool r2]) ∧ Below w.heap.size w w' := by
 have hu25 := Tryz.underlying25
 have HB := A_ (Below.refl w.heap.size w)
 have H : ((impl_isSmall.f a0_0 a0_1 3).bind fun t266 => (if t266 = true then ((impl_sizes.f a0_0).bind fun t267 => ((impl_Table_smallest.f k a0_0 a0_1 t267).bind fun t270 => (some (t270, true)))) else (some ((⟨#[]⟩ : ByteArray), false)))) = some (r1, r2) := h
 clear h; replace H := Option.bind_eq_some_iff.mp H; obtain ⟨t266, A20, H⟩ := H; (try dsimp only at H); have A2 := A_ A20; clear A20
 by_cases c3 : t266 = true
 ·subst c3
  have H1 : ((impl_sizes.f a0_0).bind fun t267 => ((impl_Table_smallest.f k a0_0 a0_1 t267).bind fun t270 => (some (t270, true)))) = some (r1, r2) := by rw [if_pos rfl] at H; exact H
  clear H; have H := H1; clear H1; replace H := Option.bind_eq_some_iff.mp H; obtain ⟨t267, A40, H⟩ := H
  replace H : ((impl_Table_smallest.f k a0_0 a0_1 t267).bind fun t270 => (some (t270, true))) = some (r1, r2) := H
  have A4 := A_ A40; clear A40; replace H := Option.bind_eq_some_iff.mp H; obtain ⟨t270, A50, H⟩ := H
  replace H : (some (t270, true)) = some (r1, r2) := H
  have A5 := A_ A50; clear A50
  simp only [Option.some.injEq, Prod.mk.injEq] at H
  obtain ⟨rfl, rfl⟩ := H
  go_enter Tryz.func6, Tryz.ntmps6
  try go_wp2_with (first | ((with_reducible refine gate_dst (N := 1) rfl ?_); refine box_event ?hg (N := 1) ?hd (cs := #[.int .i64 a0_0, .int .i64 a0_1]) (t := 25) ?hr ?_; (case hd => rfl); (case hg => rfl); (case hr => first | (go_simp; done) | (go_simp; rfl)); intro gb265 hg w6 hbox hb; have BK265 := A_ (hbox); have GW265 := A_ ((by rw [hg]; exact (below_size q0_) : w.heap.size ≤ gb265)); have GE265 := A_ ((by rw [hg]; exact (below_size q0_) : w.heap.size ≤ gb265)); replace HB := A_ (below_step q0_ hb); clear hb hbox hg; have hcz7_0 := c20_ BK265; have hcz7_1 := c21_ BK265; have hfz7_0 := blk_frozen BK265.out 0; have hfz7_1 := blk_frozen BK265.out 1) | ((with_reducible refine gate_callee (f := 41) rfl ?_); refine goesL_ (some 5) rfl rfl Tryz.func41 kr_ rfl #[.agg #[.int .i64 a0_0, .int .i64 a0_1], .int .i64 3] rfl q2_ ?_; (with_reducible refine (impl_isSmall.calls a0_0 a0_1 3 true _ A2.out).mono ?_); rintro e w8 ⟨rfl, hb⟩; refine ⟨_, rfl, ?_⟩; replace BK265 := A_ (blk_below (M.Lb BK265) hb); replace HB := A_ (below_step q0_ hb); clear hb))
  have n0_ := A_ (blk_drew BK265.out)
  have n1_ := A_ (below_drew1 HB.out)
  clear BK265; clear HB; have BK265 := n0_; have HB := n1_; clear n0_ n1_
  refine start_ (n := 7) (S := fun w' => w'.cell? ⟨gb265, 0, none⟩ = some (.int .i64 a0_0) ∧ w'.cell? ⟨gb265, 1, none⟩ = some (.int .i64 a0_1)) (ds := []) #[false, false, false, false, false, false, false] kr_ rfl rfl ⟨(blk_cell BK265.out 0).trans rfl, (blk_cell BK265.out 1).trans rfl⟩ (fun hHeld => ?_)
  generalize w8.drew = w9 at BK265 HB hHeld ⊢
  refine pure_ (i := 1) (N := some 8) (v := ?_) (a' := ?_) #[false, true, false, false, false, false, false] rfl rfl kr_ (fun _ _ _ h => h) (Or.inl ⟨by rfl, ?_⟩) ?_ ?_; rotate_left
  ·intro w'; go_simp; with_reducible rfl
  rotate_left
  ·simp only [Act.put, List.setIfInBounds_toArray, List.set_cons_zero, List.set_cons_succ, i64_w, i32_w]; rfl
  refine take_ (i := 0) (N := some 7) (v := ?_) (a' := ?_) #[true, true, false, false, false, false, false] rfl rfl kr_ (fun _ _ _ h => h) (Or.inl ⟨by rfl, ?_⟩) hHeld ?_ ?_
  rotate_left
  ·rintro w' ⟨s0, s1⟩
   go_simp; with_reducible rfl
  rotate_left
  ·simp only [Act.put, List.setIfInBounds_toArray, List.set_cons_zero, List.set_cons_succ, i64_w, i32_w]; rfl
  refine take_ (i := 2) (N := some 9) (v := ?_) (a' := ?_) #[true, true, true, false, false, false, false] rfl rfl kr_ (fun _ _ _ h => h) (Or.inl ⟨by rfl, ?_⟩) hHeld ?_ ?_
  rotate_left
  ·rintro w' ⟨s0, s1⟩
   go_simp; with_reducible rfl
  rotate_left
  ·simp only [Act.put, List.setIfInBounds_toArray, List.set_cons_zero, List.set_cons_succ, i64_w, i32_w]; rfl
  refine one_ (i := 3) (N := some 10) #[true, true, true, true, false, false, false] rfl rfl kr_ (by decide) (fun K hK => ?_)
  refine goes_ Tryz.func43 kr_ rfl #[.int .i64 a0_0] (by rfl) rfl rfl q2_ ?_
  with_reducible refine (impl_sizes.calls a0_0 t267 _ A4.out).mono ?_
  rintro e w10 ⟨v268, rfl, ho0, hb⟩
  refine ⟨_, rfl, ?_⟩
  have n0_ := A_ (Kd.R_lower ho0 (below_size q0_))
  have n1_ := A_ (blk_below (M.Lb BK265) hb)
  have n2_ := A_ (below_step q0_ hb)
  clear BK265; clear HB; have HO269 := n0_; have BK265 := n1_; have HB := n2_; clear n0_ n1_ n2_; clear hb ho0
  obtain ⟨Ao11, co11, eo11⟩ := Kd.R_slice HO269.out
  (first | subst eo11 | (injection eo11 with f1_ f2_ f3_; have f4_ := f1_.symm; have f5_ := f3_.symm; clear f1_ f2_ f3_; subst f4_; subst f5_))
  refine hK.out _ _ ⟨(blk_cell BK265.out 0).trans rfl, (blk_cell BK265.out 1).trans rfl⟩ (fun hHeld => ?_)
  clear hK K
  refine norm_ (a' := ?_) ?_ ?_
  rotate_left
  ·show Act.put _ (some 10) _ = _
   simp only [Act.put, List.setIfInBounds_toArray, List.set_cons_zero, List.set_cons_succ, i64_w, i32_w]; rfl
  refine one_ (i := 4) (N := some 11) #[true, true, true, true, true, false, false] rfl rfl kr_ (by decide) (fun K hK => ?_)
  refine goes_ Tryz.func42 kr_ rfl #[.agg #[.int .i64 a0_0, .int .i64 a0_1], .slice Ao11 t267.length co11] (by rfl) rfl rfl q2_ ?_
  with_reducible refine (impl_Table_smallest.calls k a0_0 a0_1 (fun k_ => some k_ = (.slice Ao11 t267.length co11 : Value).ownBlock) _ _ t267 t270 _ ?side1 A5.out).mono ?_
  (case side1 => exact Kd.R_V (Kd.R_tight rfl (Kd.R_types (HO269.out) BK265.out (by decide))))
  rintro e w12 ⟨rfl, hb⟩
  refine ⟨_, rfl, ?_⟩
  have n0_ := A_ (Kd.R_below (M.Lr HO269) hb)
  have n1_ := A_ (blk_below (M.Lb BK265) hb)
  have n2_ := A_ (below_step q0_ hb)
  clear HO269; clear BK265; clear HB; have HO269 := n0_; have BK265 := n1_; have HB := n2_; clear n0_ n1_ n2_; clear hb
  refine hK.out _ _ ⟨(blk_cell BK265.out 0).trans rfl, (blk_cell BK265.out 1).trans rfl⟩ (fun hHeld => ?_)
  clear hK K
  refine norm_ (a' := ?_) ?_ ?_
  rotate_left
  ·show Act.put _ (some 11) _ = _
   simp only [Act.put, List.setIfInBounds_toArray, List.set_cons_zero, List.set_cons_succ, i64_w, i32_w]; rfl
  refine pure_ (i := 5) (N := some 2) (v := ?_) (a' := ?_) #[true, true, true, true, true, true, false] rfl rfl kr_ (fun _ _ _ h => h) (Or.inl ⟨by rfl, ?_⟩) ?_ ?_; rotate_left
  ·intro w'; go_simp; with_reducible rfl
  rotate_left
  ·simp only [Act.put, List.setIfInBounds_toArray, List.set_cons_zero, List.set_cons_succ, i64_w, i32_w]; rfl
  refine pure_ (i := 6) (N := some 3) (v := ?_) (a' := ?_) #[true, true, true, true, true, true, true] rfl rfl kr_ (fun _ _ _ h => h) (Or.inl ⟨by rfl, ?_⟩) ?_ ?_; rotate_left
  ·intro w'; go_simp; with_reducible rfl
  rotate_left
  ·simp only [Act.put, List.setIfInBounds_toArray, List.set_cons_zero, List.set_cons_succ, i64_w, i32_w]; rfl
  refine done_ kr_ ?_
  try go_wp2
  go_ret2
  exact ⟨q6_, q0_⟩
 ·replace c3 := Bool.eq_false_iff.mpr c3
  subst c3
  have H1 : (some ((⟨#[]⟩ : ByteArray), false)) = some (r1, r2) := by rw [if_neg (show ¬ (false = true) by decide)] at H; exact H
  clear H; have H := H1; clear H1
  simp only [Option.some.injEq, Prod.mk.injEq] at H
  obtain ⟨rfl, rfl⟩ := H
  go_enter Tryz.func6, Tryz.ntmps6
  go_wp2_with (first | ((with_reducible refine gate_dst (N := 1) rfl ?_); refine box_event ?hg (N := 1) ?hd (cs := #[.int .i64 a0_0, .int .i64 a0_1]) (t := 25) ?hr ?_; (case hd => rfl); (case hg => rfl); (case hr => first | (go_simp; done) | (go_simp; rfl)); intro gb265 hg w13 hbox hb; have BK265 := A_ (hbox); have GW265 := A_ ((by rw [hg]; exact (below_size q0_) : w.heap.size ≤ gb265)); have GE265 := A_ ((by rw [hg]; exact (below_size q0_) : w.heap.size ≤ gb265)); replace HB := A_ (below_step q0_ hb); clear hb hbox hg; have hcz14_0 := c20_ BK265; have hcz14_1 := c21_ BK265; have hfz14_0 := blk_frozen BK265.out 0; have hfz14_1 := blk_frozen BK265.out 1) | ((with_reducible refine gate_callee (f := 41) rfl ?_); refine goesL_ (some 5) rfl rfl Tryz.func41 kr_ rfl #[.agg #[.int .i64 a0_0, .int .i64 a0_1], .int .i64 3] rfl q2_ ?_; (with_reducible refine (impl_isSmall.calls a0_0 a0_1 3 false _ A2.out).mono ?_); rintro e w15 ⟨rfl, hb⟩; refine ⟨_, rfl, ?_⟩; replace BK265 := A_ (blk_below (M.Lb BK265) hb); replace HB := A_ (below_step q0_ hb); clear hb))
  go_ret2
  exact ⟨q6_, q0_⟩
def spec_l1In.f (a0 : Int) (a1 : Int) (a2 : Int) : Option (Bool) := if a0 ≥ a1 then (some (decide (a0 ≤ a2))) else (some false)
theorem spec_l1In.calls (a0 : Int) (a1 : Int) (a2 : Int) (r : Bool) (w : World) (h : spec_l1In.f a0 a1 a2 = some r) :
  Calls Tryz.prog 59 #[.int .i64 a0, .int .i64 a1, .int .i64 a2] w fun e w' => e = .returned (.bool r) ∧ Drawn0 w w' := by
 have H : (if a0 ≥ a1 then (some (decide (a0 ≤ a2))) else (some false)) = some r := h
 clear h
 by_cases c4 : a0 ≥ a1
 ·rw [if_pos c4] at H
  have c4b0 : decide (a1 ≤ a0) = true := decide_eq_true c4
  clear c4
  obtain rfl := Option.some.inj H
  go_enter Tryz.func59, Tryz.ntmps59
  go_wp2
  go_ret
  exact ⟨q1_, q5_⟩
 ·rw [if_neg c4] at H
  have c4b0 : decide (a1 ≤ a0) = false := decide_eq_false c4
  clear c4
  obtain rfl := Option.some.inj H
  go_enter Tryz.func59, Tryz.ntmps59
  go_wp2
  go_ret
  exact ⟨q1_, q5_⟩
def spec_IsTable.f (a0_0 : Int) (a0_1 : Int) : Option (Bool) := (spec_l1In.f a0_0 0 5).bind fun t272 => (if t272 = true then (if 0 ≤ a0_0 then ((spec_l1In.f a0_1 0 (wrap64 ((shl .i64 1 (shl .u64 1 a0_0)) - 1))).bind fun t273 => (some t273)) else (none)) else (some false))
theorem spec_IsTable.calls (a0_0 : Int) (a0_1 : Int) (r : Bool) (w : World) (h : spec_IsTable.f a0_0 a0_1 = some r) :
  Calls Tryz.prog 44 #[.agg #[.int .i64 a0_0, .int .i64 a0_1]] w fun e w' => e = .returned (.bool r) ∧ Below w.heap.size w w' := by
 have hu25 := Tryz.underlying25
 have HB := A_ (Below.refl w.heap.size w)
 have H : ((spec_l1In.f a0_0 0 5).bind fun t272 => (if t272 = true then (if 0 ≤ a0_0 then ((spec_l1In.f a0_1 0 (wrap64 ((shl .i64 1 (shl .u64 1 a0_0)) - 1))).bind fun t273 => (some t273)) else (none)) else (some false))) = some r := h
 clear h; replace H := Option.bind_eq_some_iff.mp H; obtain ⟨t272, A20, H⟩ := H; (try dsimp only at H); have A2 := A_ A20; clear A20
 by_cases c3 : t272 = true
 ·subst c3
  have H1 : (if 0 ≤ a0_0 then ((spec_l1In.f a0_1 0 (wrap64 ((shl .i64 1 (shl .u64 1 a0_0)) - 1))).bind fun t273 => (some t273)) else (none)) = some r := by rw [if_pos rfl] at H; exact H
  clear H; have H := H1; clear H1
  by_cases c4 : 0 ≤ a0_0
  ·rw [if_pos c4] at H
   have c4b0 := eq_true c4
   have c4b1 : decide (0 ≤ a0_0) = true := decide_eq_true c4
   clear c4
   obtain ⟨ji5, hji5⟩ : ∃ j_ : Int, (shl .u64 1 a0_0) = j_ := ⟨_, rfl⟩
   replace H : ((spec_l1In.f a0_1 0 (wrap64 ((shl .i64 1 (ji5)) - 1))).bind fun t273 => (some t273)) = some r := q16_
   (try rw [hji5] at A2)
   have hji5_ : (IntKind.u64.wrap (1 * 2 ^ min a0_0.toNat 64)) = ji5 := hji5
   have hji5z : a0_0 ≤ 64 → (IntKind.u64.wrap (1 * 2 ^ a0_0.toNat)) = ji5 := shl_small hji5
   have hji5n0 : 0 ≤ ji5 := by rw [← hji5]; exact shl_u_nn _ _
   have hji5n1 := eq_true hji5n0
   have hji5n2 : decide (0 ≤ ji5) = true := decide_eq_true hji5n0
   have hji5u : (IntKind.u64.wrap (2 ^ min a0_0.toNat 64)) = ji5 := by have h_ := hji5_; rw [Int.one_mul] at h_; exact h_
   have hji5v : a0_0 ≤ 64 → (IntKind.u64.wrap (2 ^ a0_0.toNat)) = ji5 := fun hle_ => by have h_ := hji5z hle_; rw [Int.one_mul] at h_; exact h_
   obtain ⟨ji6, hji6⟩ : ∃ j_ : Int, (shl .i64 1 (ji5)) = j_ := ⟨_, rfl⟩
   replace H : ((spec_l1In.f a0_1 0 (wrap64 ((ji6) - 1))).bind fun t273 => (some t273)) = some r := by first | (rw [hji6] at H; exact H) | (simp only [hji6] at H ⊢; exact H)
   (try rw [hji6] at A2)
   have hji6_ : (IntKind.i64.wrap (1 * 2 ^ min (ji5).toNat 64)) = ji6 := hji6
   have hji6z : (ji5) ≤ 64 → (IntKind.i64.wrap (1 * 2 ^ (ji5).toNat)) = ji6 := shl_small hji6
   have hji6u : (IntKind.i64.wrap (2 ^ min (ji5).toNat 64)) = ji6 := by have h_ := hji6_; rw [Int.one_mul] at h_; exact h_
   have hji6v : (ji5) ≤ 64 → (IntKind.i64.wrap (2 ^ (ji5).toNat)) = ji6 := fun hle_ => by have h_ := hji6z hle_; rw [Int.one_mul] at h_; exact h_
   have hji6y : (wrap64 (1 * 2 ^ min (ji5).toNat 64)) = ji6 := (i64_w _).symm.trans hji6_
   have hji6x : (ji5) ≤ 64 → (wrap64 (1 * 2 ^ (ji5).toNat)) = ji6 := fun h_ => (i64_w _).symm.trans (hji6z h_)
   replace H := Option.bind_eq_some_iff.mp H; obtain ⟨t273, A70, H⟩ := H
   replace H : (some t273) = some r := H
   have A7 := A_ A70; clear A70
   obtain rfl := Option.some.inj H
   go_enter Tryz.func44, Tryz.ntmps44
   go_wp2_with (first | ((with_reducible refine gate_dst (N := 1) rfl ?_); refine box_event ?hg (N := 1) ?hd (cs := #[.int .i64 a0_0, .int .i64 a0_1]) (t := 25) ?hr ?_; (case hd => rfl); (case hg => rfl); (case hr => first | (go_simp; done) | (go_simp; rfl)); intro gb271 hg w8 hbox hb; have BK271 := A_ (hbox); have GW271 := A_ ((by rw [hg]; exact (below_size q0_) : w.heap.size ≤ gb271)); have GE271 := A_ ((by rw [hg]; exact (below_size q0_) : w.heap.size ≤ gb271)); replace HB := A_ (below_step q0_ hb); clear hb hbox hg; have hcz9_0 := c20_ BK271; have hcz9_1 := c21_ BK271; have hfz9_0 := blk_frozen BK271.out 0; have hfz9_1 := blk_frozen BK271.out 1))
   repeat (go_quiet (first | (go_at_call 59; (with_reducible refine (spec_l1In.calls a0_0 0 5 true _ A2.out).mono ?_); rintro e w' ⟨rfl, ⟨nd, rfl⟩⟩; (try exact q10_)) | (go_at_call 59; (with_reducible refine (spec_l1In.calls a0_1 0 (wrap64 ((ji6) - 1)) t273 _ A7.out).mono ?_); rintro e w' ⟨rfl, ⟨nd, rfl⟩⟩; (try exact q10_))); try go_wp2_with (fail))
   go_ret
   exact ⟨by first | rfl | (simp [errW_none, errW_some] <;> rfl) | (simp only [← hji5, ← hji6]; first | rfl | (simp [errW_none, errW_some] <;> rfl)) | (simp [*, errW_none, errW_some] <;> rfl), q0_⟩
  ·rw [if_neg c4] at H
   exact absurd H (by simp)
 ·replace c3 := Bool.eq_false_iff.mpr c3
  subst c3
  have H1 : (some false) = some r := by rw [if_neg (show ¬ (false = true) by decide)] at H; exact H
  clear H; have H := H1; clear H1
  obtain rfl := Option.some.inj H
  go_enter Tryz.func44, Tryz.ntmps44
  go_wp2_with (first | ((with_reducible refine gate_dst (N := 1) rfl ?_); refine box_event ?hg (N := 1) ?hd (cs := #[.int .i64 a0_0, .int .i64 a0_1]) (t := 25) ?hr ?_; (case hd => rfl); (case hg => rfl); (case hr => first | (go_simp; done) | (go_simp; rfl)); intro gb271 hg w10 hbox hb; have BK271 := A_ (hbox); have GW271 := A_ ((by rw [hg]; exact (below_size q0_) : w.heap.size ≤ gb271)); have GE271 := A_ ((by rw [hg]; exact (below_size q0_) : w.heap.size ≤ gb271)); replace HB := A_ (below_step q0_ hb); clear hb hbox hg; have hcz11_0 := c20_ BK271; have hcz11_1 := c21_ BK271; have hfz11_0 := blk_frozen BK271.out 0; have hfz11_1 := blk_frozen BK271.out 1))
  repeat (go_quiet (first | (go_at_call 59; (with_reducible refine (spec_l1In.calls a0_0 0 5 false _ A2.out).mono ?_); rintro e w' ⟨rfl, ⟨nd, rfl⟩⟩; (try exact q10_))); try go_wp2_with (fail))
  go_ret
  exact ⟨q6_, q0_⟩
mutual
def spec_l22Write.l0 : Nat → List Int → Int → Int → Int → Option (ByteArray)
 | 0, _, _, _, _ => none
 | k + 1, x0, x1, x2, x7 => if x7 < x1 then (if 0 ≤ x2 then (if x2 < (x0.length : Int) then (spec_l22Write.j1 k x0 x1 x2 x7 ((rd x0 x2) == 1)) else (none)) else (none)) else (spec_l22Write.j1 k x0 x1 x2 x7 false)
def spec_l22Write.j1 : Nat → List Int → Int → Int → Int → Bool → Option (ByteArray)
 | 0, _, _, _, _, _ => none
 | k + 1, x0, x1, x2, x7, x26 => if x26 = true then ((spec_l2Variable.f k x1 x7).bind fun t276 => (if x2 = t276 then (if 0 ≤ x7 then (if x7 ≤ (wrap64 (x7 + 1)) then (if (wrap64 (x7 + 1)) ≤ 5 then (some ((⟨#[97, 98, 99, 100, 101]⟩ : ByteArray).extract (x7 : Int).toNat ((wrap64 (x7 + 1)) : Int).toNat)) else (none)) else (none)) else (none)) else ((spec_l2Full.f x1).bind fun t277 => ((spec_l2Variable.f k x1 x7).bind fun t278 => (if x2 = (wrap64 (t277 - t278)) then (if 0 ≤ x7 then (if x7 ≤ (wrap64 (x7 + 1)) then (if (wrap64 (x7 + 1)) ≤ 5 then (if 1 + ((⟨#[97, 98, 99, 100, 101]⟩ : ByteArray).extract (x7 : Int).toNat ((wrap64 (x7 + 1)) : Int).toNat).size ≤ 9223372036854775807 then (some ((⟨#[33]⟩ : ByteArray) ++ ((⟨#[97, 98, 99, 100, 101]⟩ : ByteArray).extract (x7 : Int).toNat ((wrap64 (x7 + 1)) : Int).toNat))) else (none)) else (none)) else (none)) else (none)) else (spec_l22Write.l0 k x0 x1 x2 (wrap64 (x7 + 1)))))))) else (spec_l22Write.l1 k x0 x1 x2 0)
def spec_l22Write.l1 : Nat → List Int → Int → Int → Int → Option (ByteArray)
 | 0, _, _, _, _ => none
 | k + 1, x0, x1, x2, x8 => if x8 < 2 then (spec_l22Write.l2 k x0 x1 x2 x8 1) else (some (⟨#[]⟩ : ByteArray))
def spec_l22Write.l2 : Nat → List Int → Int → Int → Int → Int → Option (ByteArray)
 | 0, _, _, _, _, _ => none
 | k + 1, x0, x1, x2, x8, x9 => (spec_l2Full.f x1).bind fun t279 => (if x9 < t279 then (if 0 ≤ x9 then (if x9 < (x0.length : Int) then (if 0 ≤ x2 then (if x2 < (x0.length : Int) then (if (rd x0 x9) ≥ (rd x0 x2) then (spec_l22Write.l2 k x0 x1 x2 x8 (wrap64 (x9 + 1))) else (spec_l22Write.l3 k x0 x1 x2 x8 x9 1)) else (none)) else (none)) else (none)) else (none)) else (spec_l22Write.l1 k x0 x1 x2 (wrap64 (x8 + 1))))
def spec_l22Write.l3 : Nat → List Int → Int → Int → Int → Int → Int → Option (ByteArray)
 | 0, _, _, _, _, _, _ => none
 | k + 1, x0, x1, x2, x8, x9, x10 => (spec_l2Full.f x1).bind fun t282 => (if x10 < t282 then (if 0 ≤ x9 then (if x9 < (x0.length : Int) then (if 0 ≤ x10 then (if x10 < (x0.length : Int) then (if 0 ≤ x2 then (if x2 < (x0.length : Int) then (if (wrap64 ((rd x0 x9) + (rd x0 x10))) = (rd x0 x2) then (if x8 = 0 then (spec_l22Write.j5 k x0 x1 x2 x8 x9 x10 ((Go.bits .and .i64 x9 x10) == x2)) else (spec_l22Write.j5 k x0 x1 x2 x8 x9 x10 false)) else (spec_l22Write.l3 k x0 x1 x2 x8 x9 (wrap64 (x10 + 1)))) else (none)) else (none)) else (none)) else (none)) else (none)) else (none)) else (spec_l22Write.l2 k x0 x1 x2 x8 (wrap64 (x9 + 1))))
def spec_l22Write.j5 : Nat → List Int → Int → Int → Int → Int → Int → Bool → Option (ByteArray)
 | 0, _, _, _, _, _, _, _ => none
 | k + 1, x0, x1, x2, x8, x9, x10, x98 => if x98 = true then ((spec_l22Write.f k x0 x1 x9).bind fun t286 => (if 1 + t286.size ≤ 9223372036854775807 then ((spec_l22Write.f k x0 x1 x10).bind fun t287 => (if ((⟨#[38]⟩ : ByteArray) ++ t286).size + t287.size ≤ 9223372036854775807 then (some (((⟨#[38]⟩ : ByteArray) ++ t286) ++ t287)) else (none))) else (none))) else (if x8 = 1 then (spec_l22Write.j6 k x0 x1 x2 x8 x9 x10 ((Go.bits .or .i64 x9 x10) == x2)) else (spec_l22Write.j6 k x0 x1 x2 x8 x9 x10 false))
def spec_l22Write.j6 : Nat → List Int → Int → Int → Int → Int → Int → Bool → Option (ByteArray)
 | 0, _, _, _, _, _, _, _ => none
 | k + 1, x0, x1, x2, x8, x9, x10, x117 => if x117 = true then ((spec_l22Write.f k x0 x1 x9).bind fun t288 => (if 1 + t288.size ≤ 9223372036854775807 then ((spec_l22Write.f k x0 x1 x10).bind fun t289 => (if ((⟨#[124]⟩ : ByteArray) ++ t288).size + t289.size ≤ 9223372036854775807 then (some (((⟨#[124]⟩ : ByteArray) ++ t288) ++ t289)) else (none))) else (none))) else (spec_l22Write.l3 k x0 x1 x2 x8 x9 (wrap64 (x10 + 1)))
def spec_l22Write.f : Nat → List Int → Int → Int → Option (ByteArray)
 | 0, _, _, _ => none
 | k + 1, l0, a1, a2 => if a2 = 0 then (some (⟨#[48]⟩ : ByteArray)) else ((spec_l2Full.f a1).bind fun t274 => (if a2 = t274 then (some (⟨#[49]⟩ : ByteArray)) else (spec_l22Write.l0 k l0 a1 a2 0)))
end
theorem spec_l22Write.calls (k : Nat) : ∀ (A0 : Option Addr) (c0 : Nat) (l0 : List Int) (a1 : Int) (a2 : Int) (r : ByteArray) (w : World) (hr0 : Kd.C (Kd.int .i64) w A0 l0.length l0) (hc0 : l0.length ≤ c0) (h : spec_l22Write.f k l0 a1 a2 = some r),
  Calls Tryz.prog 45 #[.slice A0 l0.length c0, .int .i64 a1, .int .i64 a2] w fun e w' => e = .returned (.string r) ∧ Drawn0 w w' := by
 induction k using Nat.strongRecOn with
 | _ k ih =>
 intro A0 c0 l0 a1 a2 r w hr0 hc0 h
 cases k with
 | zero => exact absurd h (by simp [spec_l22Write.f])
 | succ k =>
 simp only [spec_l22Write.f] at h
 have HR0 := A_ hr0; have HC0 := A_ hc0; clear hr0 hc0
 have H : (if a2 = 0 then (some (⟨#[48]⟩ : ByteArray)) else ((spec_l2Full.f a1).bind fun t274 => (if a2 = t274 then (some (⟨#[49]⟩ : ByteArray)) else (spec_l22Write.l0 k l0 a1 a2 0)))) = some r := h
 clear h
 by_cases c4 : a2 = 0
 ·rw [if_pos c4] at H
  have c4b0 : (a2 == 0) = true := beq_iff_eq.mpr c4
  have c4b1 : (a2 != 0) = false := bne_eq_false_iff_eq.mpr c4
  clear c4
  obtain rfl := Option.some.inj H
  go_enter Tryz.func45, Tryz.ntmps45
  go_wp2
  repeat (go_quiet (fail); try go_wp2)
  go_ret
  exact ⟨q1_, q5_⟩
 ·rw [if_neg c4] at H
  have c4b0 : (a2 == 0) = false := beq_eq_false_iff_ne.mpr c4
  have c4b1 : (a2 != 0) = true := bne_iff_ne.mpr c4
  replace H := Option.bind_eq_some_iff.mp H; obtain ⟨t274, A50, H⟩ := H
  replace H : (if a2 = t274 then (some (⟨#[49]⟩ : ByteArray)) else (spec_l22Write.l0 k l0 a1 a2 0)) = some r := H
  have A5 := A_ A50; clear A50
  by_cases c6 : a2 = t274
  ·rw [if_pos c6] at H
   have c6b0 : (a2 == t274) = true := beq_iff_eq.mpr c6
   have c6b1 : (a2 != t274) = false := bne_eq_false_iff_eq.mpr c6
   clear c6
   obtain rfl := Option.some.inj H
   go_enter Tryz.func45, Tryz.ntmps45
   go_wp2_with (first | (go_at_call 52; (with_reducible refine (spec_l2Full.calls a1 t274 _ A5.out).mono ?_); rintro e w' ⟨rfl, ⟨nd, rfl⟩⟩; (try exact q10_)))
   repeat (go_quiet (fail); try go_wp2_with (fail))
   go_ret
   exact ⟨q1_, q5_⟩
  ·rw [if_neg c6] at H
   have c6b0 : (a2 == t274) = false := beq_eq_false_iff_ne.mpr c6
   have c6b1 : (a2 != t274) = true := bne_iff_ne.mpr c6
   have H' := A_ H
   clear H
   go_enter Tryz.func45, Tryz.ntmps45
   go_wp2_with (first | (go_at_call 52; (with_reducible refine (spec_l2Full.calls a1 t274 _ A5.out).mono ?_); rintro e w' ⟨rfl, ⟨nd, rfl⟩⟩; (try exact q10_)))
   repeat (go_quiet (fail); try go_wp2_with (fail))
   go_loopg [7] k (fun kq v7 w' => ∃ (x7_1 : Int), v7 = .int .i64 x7_1 ∧ Aside0 (spec_l22Write.l0 kq l0 a1 a2 x7_1 = some r) ∧ Aside0 (kq ≤ k) ∧ Drawn0 w w')
   case atStart => exact ⟨(0), q1_, H', ⟨Nat.le_refl _⟩, q5_⟩
   case round =>
    clear H'; clear c4 c4b0 c4b1 c6 c6b0 c6b1
    obtain ⟨x7_1, rfl, HA, HK1, ⟨m1, rfl⟩⟩ := hrel
    cases gk with
    | zero => exact absurd HA.out (by simp [spec_l22Write.l0])
    | succ k1 =>
     have H := HA.out
     clear HA
     simp only [spec_l22Write.l0] at H
     have HC7 := A_ H; clear H
     go_upto_region 6 with (fail)
     repeat (go_quiet (fail); go_upto_region 6 with (fail))
     go_cut [26] (fun v26 wc => ∃ (kq : Nat) (x26_6 : Bool), v26 = .bool x26_6 ∧ Aside0 (spec_l22Write.j1 kq l0 a1 a2 x7_1 x26_6 = some r) ∧ Aside0 (kq ≤ k1) ∧ Drawn0 w wc)
     case first =>
      have H := HC7.out
      clear HC7
      by_cases c8 : x7_1 < a1
      ·rw [if_pos c8] at H
       have c8b0 : decide (x7_1 < a1) = true := decide_eq_true c8
       clear c8
       (first | rw [c8b0] | (simp only [i64_w, i32_w]; rw [c8b0]) | skip)
       by_cases c9 : 0 ≤ a2
       ·rw [if_pos c9] at H
        have c9b0 : decide (0 ≤ a2) = true := decide_eq_true c9
        clear c9
        by_cases c10 : a2 < (l0.length : Int)
        ·rw [if_pos c10] at H
         have c10b0 : decide (a2 < (l0.length : Int)) = true := decide_eq_true c10
         clear c10
         have H' := A_ H
         clear H
         have p275 : 0 ≤ (a2 : Int) := of_decide_eq_true q8_
         have q275 : a2 < (l0.length : Int) := of_decide_eq_true q8_
         obtain ⟨ad275, e275, hx275_0⟩ := Kd.at_int HR0.out a2 p275 q275
         cases e275
         replace p275 := eq_true p275
         replace q275 := eq_true q275
         go_wp2
         repeat (go_quiet (fail); try go_wp2)
         go_meet
         case rel => exact ⟨_, (((rd l0 a2) == 1)), q1_, H', ⟨by have := HK1.out; first | omega | exact Nat.le_refl _⟩, q5_⟩
        ·rw [if_neg c10] at H
         exact absurd H (by simp)
       ·rw [if_neg c9] at H
        exact absurd H (by simp)
      ·rw [if_neg c8] at H
       have c8b0 : decide (x7_1 < a1) = false := decide_eq_false c8
       clear c8
       (first | rw [c8b0] | (simp only [i64_w, i32_w]; rw [c8b0]) | skip)
       have H' := A_ H
       clear H
       go_wp2
       repeat (go_quiet (fail); try go_wp2)
       go_meet
       case rel => exact ⟨_, (false), q1_, H', ⟨by have := HK1.out; first | omega | exact Nat.le_refl _⟩, q5_⟩
     case rest =>
      clear HC7
      obtain ⟨kq, x26_6, rfl, HA, HJ6, ⟨mc6, rfl⟩⟩ := hcut
      cases kq with
      | zero => exact absurd HA.out (by simp [spec_l22Write.j1])
      | succ kj6 =>
       have H := HA.out
       clear HA
       simp only [spec_l22Write.j1] at H
       by_cases c11 : x26_6 = true
       ·subst c11
        have H1 : ((spec_l2Variable.f kj6 a1 x7_1).bind fun t276 => (if a2 = t276 then (if 0 ≤ x7_1 then (if x7_1 ≤ (wrap64 (x7_1 + 1)) then (if (wrap64 (x7_1 + 1)) ≤ 5 then (some ((⟨#[97, 98, 99, 100, 101]⟩ : ByteArray).extract (x7_1 : Int).toNat ((wrap64 (x7_1 + 1)) : Int).toNat)) else (none)) else (none)) else (none)) else ((spec_l2Full.f a1).bind fun t277 => ((spec_l2Variable.f kj6 a1 x7_1).bind fun t278 => (if a2 = (wrap64 (t277 - t278)) then (if 0 ≤ x7_1 then (if x7_1 ≤ (wrap64 (x7_1 + 1)) then (if (wrap64 (x7_1 + 1)) ≤ 5 then (if 1 + ((⟨#[97, 98, 99, 100, 101]⟩ : ByteArray).extract (x7_1 : Int).toNat ((wrap64 (x7_1 + 1)) : Int).toNat).size ≤ 9223372036854775807 then (some ((⟨#[33]⟩ : ByteArray) ++ ((⟨#[97, 98, 99, 100, 101]⟩ : ByteArray).extract (x7_1 : Int).toNat ((wrap64 (x7_1 + 1)) : Int).toNat))) else (none)) else (none)) else (none)) else (none)) else (spec_l22Write.l0 kj6 l0 a1 a2 (wrap64 (x7_1 + 1)))))))) = some r := by rw [if_pos rfl] at H; exact H
        clear H; have H := H1; clear H1; replace H := Option.bind_eq_some_iff.mp H; obtain ⟨t276, A120, H⟩ := H; (try dsimp only at H); have A12 := A_ A120; clear A120
        by_cases c13 : a2 = t276
        ·rw [if_pos c13] at H
         have c13b0 : (a2 == t276) = true := beq_iff_eq.mpr c13
         have c13b1 : (a2 != t276) = false := bne_eq_false_iff_eq.mpr c13
         clear c13
         by_cases c14 : 0 ≤ x7_1
         ·rw [if_pos c14] at H
          have c14b0 := eq_true c14
          have c14b1 : decide (0 ≤ x7_1) = true := decide_eq_true c14
          clear c14
          by_cases c15 : x7_1 ≤ (wrap64 (x7_1 + 1))
          ·rw [if_pos c15] at H
           have c15b0 := eq_true c15
           have c15b1 : decide (x7_1 ≤ (wrap64 (x7_1 + 1))) = true := decide_eq_true c15
           by_cases c16 : (wrap64 (x7_1 + 1)) ≤ 5
           ·rw [if_pos c16] at H
            have c16b0 := eq_true c16
            have c16b1 : decide ((wrap64 (x7_1 + 1)) ≤ 5) = true := decide_eq_true c16
            obtain rfl := Option.some.inj H
            go_wp2_with (first | (go_at_call 75; (with_reducible refine (spec_l2Variable.calls kj6 a1 x7_1 t276 _ A12.out).mono ?_); rintro e w' ⟨rfl, ⟨nd, rfl⟩⟩; (try exact q10_)))
            repeat (go_quiet (fail); try go_wp2_with (fail))
            go_ret
            exact ⟨q1_, q5_⟩
           ·rw [if_neg c16] at H
            exact absurd H (by simp)
          ·rw [if_neg c15] at H
           exact absurd H (by simp)
         ·rw [if_neg c14] at H
          exact absurd H (by simp)
        ·rw [if_neg c13] at H
         have c13b0 : (a2 == t276) = false := beq_eq_false_iff_ne.mpr c13
         have c13b1 : (a2 != t276) = true := bne_iff_ne.mpr c13
         replace H := Option.bind_eq_some_iff.mp H; obtain ⟨t277, A170, H⟩ := H; (try dsimp only at H); have A17 := A_ A170; clear A170; replace H := Option.bind_eq_some_iff.mp H; obtain ⟨t278, A180, H⟩ := H
         have A18q : t276 = t278 := Option.some.inj (A12.out.symm.trans A180)
         subst A18q; clear A180; (try dsimp only at H)
         by_cases c19 : a2 = (wrap64 (t277 - t276))
         ·rw [if_pos c19] at H
          have c19b0 : (a2 == (wrap64 (t277 - t276))) = true := beq_iff_eq.mpr c19
          have c19b1 : (a2 != (wrap64 (t277 - t276))) = false := bne_eq_false_iff_eq.mpr c19
          clear c19
          by_cases c20 : 0 ≤ x7_1
          ·rw [if_pos c20] at H
           have c20b0 := eq_true c20
           have c20b1 : decide (0 ≤ x7_1) = true := decide_eq_true c20
           clear c20
           by_cases c21 : x7_1 ≤ (wrap64 (x7_1 + 1))
           ·rw [if_pos c21] at H
            have c21b0 := eq_true c21
            have c21b1 : decide (x7_1 ≤ (wrap64 (x7_1 + 1))) = true := decide_eq_true c21
            by_cases c22 : (wrap64 (x7_1 + 1)) ≤ 5
            ·rw [if_pos c22] at H
             have c22b0 := eq_true c22
             have c22b1 : decide ((wrap64 (x7_1 + 1)) ≤ 5) = true := decide_eq_true c22
             by_cases c23 : 1 + ((⟨#[97, 98, 99, 100, 101]⟩ : ByteArray).extract (x7_1 : Int).toNat ((wrap64 (x7_1 + 1)) : Int).toNat).size ≤ 9223372036854775807
             ·rw [if_pos c23] at H
              have c23b0 := eq_true c23
              have c23b1 : decide (1 + ((⟨#[97, 98, 99, 100, 101]⟩ : ByteArray).extract (x7_1 : Int).toNat ((wrap64 (x7_1 + 1)) : Int).toNat).size ≤ 9223372036854775807) = true := decide_eq_true c23
              try have c23b2 : (9223372036854775807 < 1 + ((⟨#[97, 98, 99, 100, 101]⟩ : ByteArray).extract (x7_1 : Int).toNat ((wrap64 (x7_1 + 1)) : Int).toNat).size) = False := eq_false (Nat.not_lt.2 c23)
              obtain rfl := Option.some.inj H
              go_wp2_with (first | (go_at_call 75; (with_reducible refine (spec_l2Variable.calls kj6 a1 x7_1 t276 _ A12.out).mono ?_); rintro e w' ⟨rfl, ⟨nd, rfl⟩⟩; (try exact q10_)) | (go_at_call 52; (with_reducible refine (spec_l2Full.calls a1 t277 _ A17.out).mono ?_); rintro e w' ⟨rfl, ⟨nd, rfl⟩⟩; (try exact q10_)))
              repeat (go_quiet (fail); try go_wp2_with (fail))
              go_ret
              exact ⟨q1_, q5_⟩
             ·rw [if_neg c23] at H
              exact absurd H (by simp)
            ·rw [if_neg c22] at H
             exact absurd H (by simp)
           ·rw [if_neg c21] at H
            exact absurd H (by simp)
          ·rw [if_neg c20] at H
           exact absurd H (by simp)
         ·rw [if_neg c19] at H
          have c19b0 : (a2 == (wrap64 (t277 - t276))) = false := beq_eq_false_iff_ne.mpr c19
          have c19b1 : (a2 != (wrap64 (t277 - t276))) = true := bne_iff_ne.mpr c19
          have H' := A_ H
          clear H
          go_wp2_with (first | (go_at_call 75; (with_reducible refine (spec_l2Variable.calls kj6 a1 x7_1 t276 _ A12.out).mono ?_); rintro e w' ⟨rfl, ⟨nd, rfl⟩⟩; (try exact q10_)) | (go_at_call 52; (with_reducible refine (spec_l2Full.calls a1 t277 _ A17.out).mono ?_); rintro e w' ⟨rfl, ⟨nd, rfl⟩⟩; (try exact q10_)))
          repeat (go_quiet (fail); try go_wp2_with (fail))
          go_roundg kj6
          case measure => have := HK1.out; have := HJ6.out; omega
          case rel => exact ⟨(wrap64 (x7_1 + 1)), q1_, H', ⟨by have := HK1.out; have := HJ6.out; omega⟩, q5_⟩
       ·replace c11 := Bool.eq_false_iff.mpr c11
        subst c11
        have H1 : (spec_l22Write.l1 kj6 l0 a1 a2 0) = some r := by rw [if_neg (show ¬ (false = true) by decide)] at H; exact H
        clear H; have H := H1; clear H1
        have H' := A_ H
        clear H
        go_wp2
        repeat (go_quiet (fail); try go_wp2)
        go_loopg [8] kj6 (fun kq v8 w' => ∃ (x8_3 : Int), v8 = .int .i64 x8_3 ∧ Aside0 (spec_l22Write.l1 kq l0 a1 a2 x8_3 = some r) ∧ Aside0 (kq ≤ kj6) ∧ Drawn0 w w')
        case atStart => exact ⟨(0), q1_, H', ⟨Nat.le_refl _⟩, q5_⟩
        case round =>
         clear H'
         skip
         obtain ⟨x8_3, rfl, HA, HK3, ⟨m3, rfl⟩⟩ := hrel
         cases gk with
         | zero => exact absurd HA.out (by simp [spec_l22Write.l1])
         | succ k3 =>
          have H := HA.out
          clear HA
          simp only [spec_l22Write.l1] at H
          by_cases c24 : x8_3 < 2
          ·rw [if_pos c24] at H
           have c24b0 : decide (x8_3 < 2) = true := decide_eq_true c24
           clear c24
           have H' := A_ H
           clear H
           go_wp2
           repeat (go_quiet (fail); try go_wp2)
           go_loopg [9] k3 (fun kq v9 w' => ∃ (x9_4 : Int), v9 = .int .i64 x9_4 ∧ Aside0 (spec_l22Write.l2 kq l0 a1 a2 x8_3 x9_4 = some r) ∧ Aside0 (kq ≤ k3) ∧ Drawn0 w w')
           case atStart => exact ⟨(1), q1_, H', ⟨Nat.le_refl _⟩, q5_⟩
           case round =>
            clear H'
            clear c24b0
            obtain ⟨x9_4, rfl, HA, HK4, ⟨m4, rfl⟩⟩ := hrel
            cases gk with
            | zero => exact absurd HA.out (by simp [spec_l22Write.l2])
            | succ k4 =>
             have H := HA.out
             clear HA
             simp only [spec_l22Write.l2] at H
             replace H := Option.bind_eq_some_iff.mp H; obtain ⟨t279, A250, H⟩ := H; (try dsimp only at H); have A25 := A_ A250; clear A250
             by_cases c26 : x9_4 < t279
             ·rw [if_pos c26] at H
              have c26b0 : decide (x9_4 < t279) = true := decide_eq_true c26
              clear c26
              by_cases c27 : 0 ≤ x9_4
              ·rw [if_pos c27] at H
               have c27b0 : decide (0 ≤ x9_4) = true := decide_eq_true c27
               clear c27
               by_cases c28 : x9_4 < (l0.length : Int)
               ·rw [if_pos c28] at H
                have c28b0 : decide (x9_4 < (l0.length : Int)) = true := decide_eq_true c28
                clear c28
                by_cases c29 : 0 ≤ a2
                ·rw [if_pos c29] at H
                 have c29b0 : decide (0 ≤ a2) = true := decide_eq_true c29
                 clear c29
                 by_cases c30 : a2 < (l0.length : Int)
                 ·rw [if_pos c30] at H
                  have c30b0 : decide (a2 < (l0.length : Int)) = true := decide_eq_true c30
                  clear c30
                  by_cases c31 : (rd l0 x9_4) ≥ (rd l0 a2)
                  ·rw [if_pos c31] at H
                   have c31b0 : decide ((rd l0 a2) ≤ (rd l0 x9_4)) = true := decide_eq_true c31
                   clear c31
                   have H' := A_ H
                   clear H
                   go_wp2_with (first | (go_at_call 52; (with_reducible refine (spec_l2Full.calls a1 t279 _ A25.out).mono ?_); rintro e w' ⟨rfl, ⟨nd, rfl⟩⟩; (try exact q10_); (try (have p280 : 0 ≤ (x9_4 : Int) := of_decide_eq_true q8_; have q280 : x9_4 < (l0.length : Int) := of_decide_eq_true q8_; obtain ⟨ad280, e280, hx280_0⟩ := Kd.at_int HR0.out x9_4 p280 q280; cases e280; replace p280 := eq_true p280; replace q280 := eq_true q280; have p281 : 0 ≤ (a2 : Int) := of_decide_eq_true q8_; have q281 : a2 < (l0.length : Int) := of_decide_eq_true q8_; obtain ⟨ad281, e281, hx281_0⟩ := Kd.at_int HR0.out a2 p281 q281; obtain rfl : ad280 = ad281 := (by injection e281); replace p281 := eq_true p281; replace q281 := eq_true q281))))
                   repeat (go_quiet (fail); try go_wp2_with (fail))
                   go_roundg k4
                   case measure => have := HK1.out; have := HJ6.out; have := HK3.out; have := HK4.out; omega
                   case rel => exact ⟨(wrap64 (x9_4 + 1)), q1_, H', ⟨by have := HK1.out; have := HJ6.out; have := HK3.out; have := HK4.out; omega⟩, q5_⟩
                  ·rw [if_neg c31] at H
                   have c31b0 : decide ((rd l0 a2) ≤ (rd l0 x9_4)) = false := decide_eq_false c31
                   clear c31
                   have H' := A_ H
                   clear H
                   go_wp2_with (first | (go_at_call 52; (with_reducible refine (spec_l2Full.calls a1 t279 _ A25.out).mono ?_); rintro e w' ⟨rfl, ⟨nd, rfl⟩⟩; (try exact q10_); (try (have p280 : 0 ≤ (x9_4 : Int) := of_decide_eq_true q8_; have q280 : x9_4 < (l0.length : Int) := of_decide_eq_true q8_; obtain ⟨ad280, e280, hx280_0⟩ := Kd.at_int HR0.out x9_4 p280 q280; cases e280; replace p280 := eq_true p280; replace q280 := eq_true q280; have p281 : 0 ≤ (a2 : Int) := of_decide_eq_true q8_; have q281 : a2 < (l0.length : Int) := of_decide_eq_true q8_; obtain ⟨ad281, e281, hx281_0⟩ := Kd.at_int HR0.out a2 p281 q281; obtain rfl : ad280 = ad281 := (by injection e281); replace p281 := eq_true p281; replace q281 := eq_true q281))))
                   repeat (go_quiet (fail); try go_wp2_with (fail))
                   go_loopg [10] k4 (fun kq v10 w' => ∃ (x10_5 : Int), v10 = .int .i64 x10_5 ∧ Aside0 (spec_l22Write.l3 kq l0 a1 a2 x8_3 x9_4 x10_5 = some r) ∧ Aside0 (kq ≤ k4) ∧ Drawn0 w w')
                   case atStart => exact ⟨(1), q1_, H', ⟨Nat.le_refl _⟩, q5_⟩
                   case round =>
                    clear H'
                    clear c26b0 c27b0 c28b0 c29b0
                    clear c30b0 c31b0 hx280_0 hx281_0 p280 p281 q280 q281
                    obtain ⟨x10_5, rfl, HA, HK5, ⟨m5, rfl⟩⟩ := hrel
                    cases gk with
                    | zero => exact absurd HA.out (by simp [spec_l22Write.l3])
                    | succ k5 =>
                     have H := HA.out
                     clear HA
                     simp only [spec_l22Write.l3] at H
                     replace H := Option.bind_eq_some_iff.mp H; obtain ⟨t282, A320, H⟩ := H; (try dsimp only at H); have A32 := A_ A320; clear A320
                     by_cases c33 : x10_5 < t282
                     ·rw [if_pos c33] at H
                      have c33b0 : decide (x10_5 < t282) = true := decide_eq_true c33
                      clear c33
                      by_cases c34 : 0 ≤ x9_4
                      ·rw [if_pos c34] at H
                       have c34b0 : decide (0 ≤ x9_4) = true := decide_eq_true c34
                       clear c34
                       by_cases c35 : x9_4 < (l0.length : Int)
                       ·rw [if_pos c35] at H
                        have c35b0 : decide (x9_4 < (l0.length : Int)) = true := decide_eq_true c35
                        clear c35
                        by_cases c36 : 0 ≤ x10_5
                        ·rw [if_pos c36] at H
                         have c36b0 : decide (0 ≤ x10_5) = true := decide_eq_true c36
                         clear c36
                         by_cases c37 : x10_5 < (l0.length : Int)
                         ·rw [if_pos c37] at H
                          have c37b0 : decide (x10_5 < (l0.length : Int)) = true := decide_eq_true c37
                          clear c37
                          by_cases c38 : 0 ≤ a2
                          ·rw [if_pos c38] at H
                           have c38b0 : decide (0 ≤ a2) = true := decide_eq_true c38
                           clear c38
                           by_cases c39 : a2 < (l0.length : Int)
                           ·rw [if_pos c39] at H
                            have c39b0 : decide (a2 < (l0.length : Int)) = true := decide_eq_true c39
                            clear c39
                            by_cases c40 : (wrap64 ((rd l0 x9_4) + (rd l0 x10_5))) = (rd l0 a2)
                            ·rw [if_pos c40] at H
                             have c40b0 : ((wrap64 ((rd l0 x9_4) + (rd l0 x10_5))) == (rd l0 a2)) = true := beq_iff_eq.mpr c40
                             have c40b1 : ((wrap64 ((rd l0 x9_4) + (rd l0 x10_5))) != (rd l0 a2)) = false := bne_eq_false_iff_eq.mpr c40
                             clear c40; have HC41 := A_ H; clear H
                             go_upto_region 23 with (first | (go_at_call 52; (with_reducible refine (spec_l2Full.calls a1 t282 _ A32.out).mono ?_); rintro e w' ⟨rfl, ⟨nd, rfl⟩⟩; (try exact q10_); have p283 : 0 ≤ (x9_4 : Int) := of_decide_eq_true q8_; have q283 : x9_4 < (l0.length : Int) := of_decide_eq_true q8_; obtain ⟨ad283, e283, hx283_0⟩ := Kd.at_int HR0.out x9_4 p283 q283; obtain rfl : ad280 = ad283 := (by injection e283); replace p283 := eq_true p283; replace q283 := eq_true q283; have p284 : 0 ≤ (x10_5 : Int) := of_decide_eq_true q8_; have q284 : x10_5 < (l0.length : Int) := of_decide_eq_true q8_; obtain ⟨ad284, e284, hx284_0⟩ := Kd.at_int HR0.out x10_5 p284 q284; obtain rfl : ad280 = ad284 := (by injection e284); replace p284 := eq_true p284; replace q284 := eq_true q284; have p285 : 0 ≤ (a2 : Int) := of_decide_eq_true q8_; have q285 : a2 < (l0.length : Int) := of_decide_eq_true q8_; obtain ⟨ad285, e285, hx285_0⟩ := Kd.at_int HR0.out a2 p285 q285; obtain rfl : ad280 = ad285 := (by injection e285); replace p285 := eq_true p285; replace q285 := eq_true q285))
                             repeat (go_quiet (fail); go_upto_region 23 with (fail))
                             (try simp only [Act.put, List.setIfInBounds_toArray, List.set_cons_zero, List.set_cons_succ])
                             go_cut [98] (fun v98 wc => ∃ (kq : Nat) (x98_40 : Bool), v98 = .bool x98_40 ∧ Aside0 (spec_l22Write.j5 kq l0 a1 a2 x8_3 x9_4 x10_5 x98_40 = some r) ∧ Aside0 (kq ≤ k5) ∧ Drawn0 w wc)
                             case first =>
                              have H := HC41.out
                              clear HC41
                              by_cases c42 : x8_3 = 0
                              ·rw [if_pos c42] at H
                               have c42b0 : (x8_3 == 0) = true := beq_iff_eq.mpr c42
                               have c42b1 : (x8_3 != 0) = false := bne_eq_false_iff_eq.mpr c42
                               clear c42
                               (first | rw [c42b0] | (simp only [i64_w, i32_w]; rw [c42b0]) | skip)
                               have H' := A_ H
                               clear H
                               go_wp2
                               repeat (go_quiet (fail); try go_wp2)
                               go_meet
                               case rel => exact ⟨_, (((Go.bits .and .i64 x9_4 x10_5) == a2)), q1_, H', ⟨by have := HK1.out; have := HJ6.out; have := HK3.out; have := HK4.out; have := HK5.out; first | omega | exact Nat.le_refl _⟩, q5_⟩
                              ·rw [if_neg c42] at H
                               have c42b0 : (x8_3 == 0) = false := beq_eq_false_iff_ne.mpr c42
                               have c42b1 : (x8_3 != 0) = true := bne_iff_ne.mpr c42
                               (first | rw [c42b0] | (simp only [i64_w, i32_w]; rw [c42b0]) | skip)
                               have H' := A_ H
                               clear H
                               go_wp2
                               repeat (go_quiet (fail); try go_wp2)
                               go_meet
                               case rel => exact ⟨_, (false), q1_, H', ⟨by have := HK1.out; have := HJ6.out; have := HK3.out; have := HK4.out; have := HK5.out; first | omega | exact Nat.le_refl _⟩, q5_⟩
                             case rest =>
                              clear HC41
                              skip
                              clear c33b0 c34b0 c35b0 c36b0 c37b0 c38b0 c39b0 c40b0 c40b1
                              clear hx283_0 hx284_0 hx285_0 p283 p284 p285 q283 q284 q285
                              obtain ⟨kq, x98_40, rfl, HA, HJ40, ⟨mc40, rfl⟩⟩ := hcut
                              cases kq with
                              | zero => exact absurd HA.out (by simp [spec_l22Write.j5])
                              | succ kj40 =>
                               have H := HA.out
                               clear HA
                               simp only [spec_l22Write.j5] at H
                               by_cases c43 : x98_40 = true
                               ·subst c43
                                have H1 : ((spec_l22Write.f kj40 l0 a1 x9_4).bind fun t286 => (if 1 + t286.size ≤ 9223372036854775807 then ((spec_l22Write.f kj40 l0 a1 x10_5).bind fun t287 => (if ((⟨#[38]⟩ : ByteArray) ++ t286).size + t287.size ≤ 9223372036854775807 then (some (((⟨#[38]⟩ : ByteArray) ++ t286) ++ t287)) else (none))) else (none))) = some r := by rw [if_pos rfl] at H; exact H
                                clear H; have H := H1; clear H1; replace H := Option.bind_eq_some_iff.mp H; obtain ⟨t286, A440, H⟩ := H; (try dsimp only at H); have A44 := A_ A440; clear A440
                                by_cases c45 : 1 + t286.size ≤ 9223372036854775807
                                ·rw [if_pos c45] at H
                                 have c45b0 := eq_true c45
                                 have c45b1 : decide (1 + t286.size ≤ 9223372036854775807) = true := decide_eq_true c45
                                 try have c45b2 : (9223372036854775807 < 1 + t286.size) = False := eq_false (Nat.not_lt.2 c45)
                                 replace H := Option.bind_eq_some_iff.mp H; obtain ⟨t287, A460, H⟩ := H; (try dsimp only at H); have A46 := A_ A460; clear A460
                                 by_cases c47 : ((⟨#[38]⟩ : ByteArray) ++ t286).size + t287.size ≤ 9223372036854775807
                                 ·rw [if_pos c47] at H
                                  have c47b0 := eq_true c47
                                  have c47b1 : decide (((⟨#[38]⟩ : ByteArray) ++ t286).size + t287.size ≤ 9223372036854775807) = true := decide_eq_true c47
                                  try have c47b2 : (9223372036854775807 < ((⟨#[38]⟩ : ByteArray) ++ t286).size + t287.size) = False := eq_false (Nat.not_lt.2 c47)
                                  obtain rfl := Option.some.inj H
                                  go_wp2_with (first | (go_at_call 45; (with_reducible refine (ih kj40 (by have := HK1.out; have := HJ6.out; have := HK3.out; have := HK4.out; have := HK5.out; have := HJ40.out; omega) _ _ l0 a1 x9_4 t286 _ ?side1 ?side2 A44.out).mono ?_); (case side1 => exact q13_); (case side2 => exact HC0.out); rintro e w' ⟨rfl, ⟨nd, rfl⟩⟩; (try exact q10_)) | (go_at_call 45; (with_reducible refine (ih kj40 (by have := HK1.out; have := HJ6.out; have := HK3.out; have := HK4.out; have := HK5.out; have := HJ40.out; omega) _ _ l0 a1 x10_5 t287 _ ?side1 ?side2 A46.out).mono ?_); (case side1 => exact q13_); (case side2 => exact HC0.out); rintro e w' ⟨rfl, ⟨nd, rfl⟩⟩; (try exact q10_)))
                                  repeat (go_quiet (fail); try go_wp2_with (fail))
                                  go_ret
                                  exact ⟨q1_, q5_⟩
                                 ·rw [if_neg c47] at H
                                  exact absurd H (by simp)
                                ·rw [if_neg c45] at H
                                 exact absurd H (by simp)
                               ·replace c43 := Bool.eq_false_iff.mpr c43
                                subst c43
                                have H1 : (if x8_3 = 1 then (spec_l22Write.j6 kj40 l0 a1 a2 x8_3 x9_4 x10_5 ((Go.bits .or .i64 x9_4 x10_5) == a2)) else (spec_l22Write.j6 kj40 l0 a1 a2 x8_3 x9_4 x10_5 false)) = some r := by rw [if_neg (show ¬ (false = true) by decide)] at H; exact H
                                clear H; have H := H1; clear H1; have HC48 := A_ H; clear H
                                go_upto_region 25 with (fail)
                                repeat (go_quiet (fail); go_upto_region 25 with (fail))
                                go_cut [117] (fun v117 wc => ∃ (kq : Nat) (x117_47 : Bool), v117 = .bool x117_47 ∧ Aside0 (spec_l22Write.j6 kq l0 a1 a2 x8_3 x9_4 x10_5 x117_47 = some r) ∧ Aside0 (kq ≤ kj40) ∧ Drawn0 w wc)
                                case first =>
                                 have H := HC48.out
                                 clear HC48
                                 by_cases c49 : x8_3 = 1
                                 ·rw [if_pos c49] at H
                                  have c49b0 : (x8_3 == 1) = true := beq_iff_eq.mpr c49
                                  have c49b1 : (x8_3 != 1) = false := bne_eq_false_iff_eq.mpr c49
                                  clear c49
                                  (first | rw [c49b0] | (simp only [i64_w, i32_w]; rw [c49b0]) | skip)
                                  have H' := A_ H
                                  clear H
                                  go_wp2
                                  repeat (go_quiet (fail); try go_wp2)
                                  go_meet
                                  case rel => exact ⟨_, (((Go.bits .or .i64 x9_4 x10_5) == a2)), q1_, H', ⟨by have := HK1.out; have := HJ6.out; have := HK3.out; have := HK4.out; have := HK5.out; have := HJ40.out; first | omega | exact Nat.le_refl _⟩, q5_⟩
                                 ·rw [if_neg c49] at H
                                  have c49b0 : (x8_3 == 1) = false := beq_eq_false_iff_ne.mpr c49
                                  have c49b1 : (x8_3 != 1) = true := bne_iff_ne.mpr c49
                                  (first | rw [c49b0] | (simp only [i64_w, i32_w]; rw [c49b0]) | skip)
                                  have H' := A_ H
                                  clear H
                                  go_wp2
                                  repeat (go_quiet (fail); try go_wp2)
                                  go_meet
                                  case rel => exact ⟨_, (false), q1_, H', ⟨by have := HK1.out; have := HJ6.out; have := HK3.out; have := HK4.out; have := HK5.out; have := HJ40.out; first | omega | exact Nat.le_refl _⟩, q5_⟩
                                case rest =>
                                 clear HC48
                                 skip
                                 skip
                                 skip
                                 skip
                                 obtain ⟨kq, x117_47, rfl, HA, HJ47, ⟨mc47, rfl⟩⟩ := hcut
                                 cases kq with
                                 | zero => exact absurd HA.out (by simp [spec_l22Write.j6])
                                 | succ kj47 =>
                                  have H := HA.out
                                  clear HA
                                  simp only [spec_l22Write.j6] at H
                                  by_cases c50 : x117_47 = true
                                  ·subst c50
                                   have H1 : ((spec_l22Write.f kj47 l0 a1 x9_4).bind fun t288 => (if 1 + t288.size ≤ 9223372036854775807 then ((spec_l22Write.f kj47 l0 a1 x10_5).bind fun t289 => (if ((⟨#[124]⟩ : ByteArray) ++ t288).size + t289.size ≤ 9223372036854775807 then (some (((⟨#[124]⟩ : ByteArray) ++ t288) ++ t289)) else (none))) else (none))) = some r := by rw [if_pos rfl] at H; exact H
                                   clear H; have H := H1; clear H1; replace H := Option.bind_eq_some_iff.mp H; obtain ⟨t288, A510, H⟩ := H; (try dsimp only at H); have A51 := A_ A510; clear A510
                                   by_cases c52 : 1 + t288.size ≤ 9223372036854775807
                                   ·rw [if_pos c52] at H
                                    have c52b0 := eq_true c52
                                    have c52b1 : decide (1 + t288.size ≤ 9223372036854775807) = true := decide_eq_true c52
                                    try have c52b2 : (9223372036854775807 < 1 + t288.size) = False := eq_false (Nat.not_lt.2 c52)
                                    replace H := Option.bind_eq_some_iff.mp H; obtain ⟨t289, A530, H⟩ := H; (try dsimp only at H); have A53 := A_ A530; clear A530
                                    by_cases c54 : ((⟨#[124]⟩ : ByteArray) ++ t288).size + t289.size ≤ 9223372036854775807
                                    ·rw [if_pos c54] at H
                                     have c54b0 := eq_true c54
                                     have c54b1 : decide (((⟨#[124]⟩ : ByteArray) ++ t288).size + t289.size ≤ 9223372036854775807) = true := decide_eq_true c54
                                     try have c54b2 : (9223372036854775807 < ((⟨#[124]⟩ : ByteArray) ++ t288).size + t289.size) = False := eq_false (Nat.not_lt.2 c54)
                                     obtain rfl := Option.some.inj H
                                     go_wp2_with (first | (go_at_call 45; (with_reducible refine (ih kj47 (by have := HK1.out; have := HJ6.out; have := HK3.out; have := HK4.out; have := HK5.out; have := HJ40.out; have := HJ47.out; omega) _ _ l0 a1 x9_4 t288 _ ?side1 ?side2 A51.out).mono ?_); (case side1 => exact q13_); (case side2 => exact HC0.out); rintro e w' ⟨rfl, ⟨nd, rfl⟩⟩; (try exact q10_)) | (go_at_call 45; (with_reducible refine (ih kj47 (by have := HK1.out; have := HJ6.out; have := HK3.out; have := HK4.out; have := HK5.out; have := HJ40.out; have := HJ47.out; omega) _ _ l0 a1 x10_5 t289 _ ?side1 ?side2 A53.out).mono ?_); (case side1 => exact q13_); (case side2 => exact HC0.out); rintro e w' ⟨rfl, ⟨nd, rfl⟩⟩; (try exact q10_)))
                                     repeat (go_quiet (fail); try go_wp2_with (fail))
                                     go_ret
                                     exact ⟨q1_, q5_⟩
                                    ·rw [if_neg c54] at H
                                     exact absurd H (by simp)
                                   ·rw [if_neg c52] at H
                                    exact absurd H (by simp)
                                  ·replace c50 := Bool.eq_false_iff.mpr c50
                                   subst c50
                                   have H1 : (spec_l22Write.l3 kj47 l0 a1 a2 x8_3 x9_4 (wrap64 (x10_5 + 1))) = some r := by rw [if_neg (show ¬ (false = true) by decide)] at H; exact H
                                   clear H; have H := H1; clear H1
                                   have H' := A_ H
                                   clear H
                                   go_wp2
                                   repeat (go_quiet (fail); try go_wp2)
                                   go_roundg kj47
                                   case measure => have := HK1.out; have := HJ6.out; have := HK3.out; have := HK4.out; have := HK5.out; have := HJ40.out; have := HJ47.out; omega
                                   case rel => exact ⟨(wrap64 (x10_5 + 1)), q1_, H', ⟨by have := HK1.out; have := HJ6.out; have := HK3.out; have := HK4.out; have := HK5.out; have := HJ40.out; have := HJ47.out; omega⟩, q5_⟩
                            ·rw [if_neg c40] at H
                             have c40b0 : ((wrap64 ((rd l0 x9_4) + (rd l0 x10_5))) == (rd l0 a2)) = false := beq_eq_false_iff_ne.mpr c40
                             have c40b1 : ((wrap64 ((rd l0 x9_4) + (rd l0 x10_5))) != (rd l0 a2)) = true := bne_iff_ne.mpr c40
                             have H' := A_ H
                             clear H
                             go_wp2_with (first | (go_at_call 52; (with_reducible refine (spec_l2Full.calls a1 t282 _ A32.out).mono ?_); rintro e w' ⟨rfl, ⟨nd, rfl⟩⟩; (try exact q10_); (try (have p283 : 0 ≤ (x9_4 : Int) := of_decide_eq_true q8_; have q283 : x9_4 < (l0.length : Int) := of_decide_eq_true q8_; obtain ⟨ad283, e283, hx283_0⟩ := Kd.at_int HR0.out x9_4 p283 q283; obtain rfl : ad280 = ad283 := (by injection e283); replace p283 := eq_true p283; replace q283 := eq_true q283; have p284 : 0 ≤ (x10_5 : Int) := of_decide_eq_true q8_; have q284 : x10_5 < (l0.length : Int) := of_decide_eq_true q8_; obtain ⟨ad284, e284, hx284_0⟩ := Kd.at_int HR0.out x10_5 p284 q284; obtain rfl : ad280 = ad284 := (by injection e284); replace p284 := eq_true p284; replace q284 := eq_true q284; have p285 : 0 ≤ (a2 : Int) := of_decide_eq_true q8_; have q285 : a2 < (l0.length : Int) := of_decide_eq_true q8_; obtain ⟨ad285, e285, hx285_0⟩ := Kd.at_int HR0.out a2 p285 q285; obtain rfl : ad280 = ad285 := (by injection e285); replace p285 := eq_true p285; replace q285 := eq_true q285))))
                             repeat (go_quiet (fail); try go_wp2_with (fail))
                             go_roundg k5
                             case measure => have := HK1.out; have := HJ6.out; have := HK3.out; have := HK4.out; have := HK5.out; omega
                             case rel => exact ⟨(wrap64 (x10_5 + 1)), q1_, H', ⟨by have := HK1.out; have := HJ6.out; have := HK3.out; have := HK4.out; have := HK5.out; omega⟩, q5_⟩
                           ·rw [if_neg c39] at H
                            exact absurd H (by simp)
                          ·rw [if_neg c38] at H
                           exact absurd H (by simp)
                         ·rw [if_neg c37] at H
                          exact absurd H (by simp)
                        ·rw [if_neg c36] at H
                         exact absurd H (by simp)
                       ·rw [if_neg c35] at H
                        exact absurd H (by simp)
                      ·rw [if_neg c34] at H
                       exact absurd H (by simp)
                     ·rw [if_neg c33] at H
                      have c33b0 : decide (x10_5 < t282) = false := decide_eq_false c33
                      clear c33
                      have H' := A_ H
                      clear H
                      go_wp2_with (first | (go_at_call 52; (with_reducible refine (spec_l2Full.calls a1 t282 _ A32.out).mono ?_); rintro e w' ⟨rfl, ⟨nd, rfl⟩⟩; (try exact q10_)))
                      repeat (go_quiet (fail); try go_wp2_with (fail))
                      go_roundg k5
                      case measure => have := HK1.out; have := HJ6.out; have := HK3.out; have := HK4.out; have := HK5.out; omega
                      case rel => exact ⟨(wrap64 (x9_4 + 1)), q1_, H', ⟨by have := HK1.out; have := HJ6.out; have := HK3.out; have := HK4.out; have := HK5.out; omega⟩, q5_⟩
                 ·rw [if_neg c30] at H
                  exact absurd H (by simp)
                ·rw [if_neg c29] at H
                 exact absurd H (by simp)
               ·rw [if_neg c28] at H
                exact absurd H (by simp)
              ·rw [if_neg c27] at H
               exact absurd H (by simp)
             ·rw [if_neg c26] at H
              have c26b0 : decide (x9_4 < t279) = false := decide_eq_false c26
              clear c26
              have H' := A_ H
              clear H
              go_wp2_with (first | (go_at_call 52; (with_reducible refine (spec_l2Full.calls a1 t279 _ A25.out).mono ?_); rintro e w' ⟨rfl, ⟨nd, rfl⟩⟩; (try exact q10_)))
              repeat (go_quiet (fail); try go_wp2_with (fail))
              go_roundg k4
              case measure => have := HK1.out; have := HJ6.out; have := HK3.out; have := HK4.out; omega
              case rel => exact ⟨(wrap64 (x8_3 + 1)), q1_, H', ⟨by have := HK1.out; have := HJ6.out; have := HK3.out; have := HK4.out; omega⟩, q5_⟩
          ·rw [if_neg c24] at H
           have c24b0 : decide (x8_3 < 2) = false := decide_eq_false c24
           clear c24
           obtain rfl := Option.some.inj H
           go_wp2
           repeat (go_quiet (fail); try go_wp2)
           go_ret
           exact ⟨q1_, q5_⟩
end Go.Proofs.YtfoopehlmnejaaaGreatDoor.Print
namespace Go.Proofs.YtfoopehlmnejaaaGreatDoor.Print
open Go.RowKit Go.Proofs.YtfoopehlmnejaaaGreatDoorW.PrintWords Go.Proofs.YtfoopehlmnejaaaGreatDoorW.PrintLast Go.Proofs.YtfoopehlmnejaaaGreatDoorW.PrintMore
attribute [local go_sem] max2_int min2_int max_two min_two max_three min_three max_four min_four   -- for this text's walks alone
set_option linter.unusedVariables false
set_option linter.unusedSimpArgs false
open Go.Proofs.YtfoopehlmnejaaaGreatDoor.M
def spec_l22Sizes.f (a0 : Int) : Option (List Int) := if 0 ≤ a0 ∧ a0 ≤ 3 then some (szL a0.toNat) else none
theorem spec_l22Sizes.full {n N : Nat} (hn : n ≤ 3) (hN : N = szN n) : spec_l2Full.f (n : Int) = some ((N : Int) - 1) := by
 unfold spec_l2Full.f
 rw [if_pos (Int.natCast_nonneg n), full_word (by omega), hN]; rfl
theorem spec_l22Sizes.var {n i : Nat} (hn : n ≤ 3) (hi : i < n) : spec_l2Variable.f 10 (n : Int) (i : Int) = some ((szVar n i : Nat) : Int) := by
 have h : allB 4 (fun n => allB n fun i => decide (spec_l2Variable.f 10 (n : Int) (i : Int) = some ((szVar n i : Nat) : Int))) = true := by decide +kernel
 exact of_decide_eq_true (allB_of (allB4 h hn) i hi)
def spec_l22Sizes.Mem (w : World) (go co ro cb : Nat) (out : List Int) (rows : List (List Int)) (W : World) : Prop :=
 Kd.R (Kd.int .i64) 3 W w.heap.size (fun k => k = go) (.slice (some ⟨go, 0, none⟩) out.length co) out ∧
 Kd.S (Kd.slice 3 (Kd.int .i64)) 37 W w.heap.size (fun k => k ≠ go) (.slice (some ⟨ro, 0, none⟩) rows.length cb) rows ∧
 Below w.heap.size w W
theorem spec_l22Sizes.empty (W : World) (base : Nat) (hb : base ≤ W.heap.size) : Kd.R (Kd.int .i64) 3 (W.alloc (.cells #[] 3)) base (fun k => k = W.heap.size) (.slice (some ⟨W.heap.size, 0, none⟩) 0 0) [] := by
 have h := Kd.R_of_own (h1 := fun _ => rfl) (ok := fun k => k = W.heap.size) (own_lit W base 3 .i64 [] hb (by simp)) (fun k hk => by simpa [Value.ownBlock] using hk.symm)
 exact h
theorem spec_l22Sizes.start {w w4 : World} {gq co N : Nat} (hR : (Kd.int .i64).R 3 w4 w.heap.size (fun _ => True) (.slice (some ⟨gq, 0, none⟩) N co) (List.replicate N 0)) (hB : Below w.heap.size w w4) (hg : w.heap.size ≤ gq ∧ gq < w4.heap.size) :
  spec_l22Sizes.Mem w gq co (w4.heap.size + 1 + 1) 2 (List.replicate N 0) [[], []] (((w4.alloc (.cells #[] 3)).alloc (.cells #[] 3)).alloc (.cells #[.slice (some ⟨w4.heap.size, 0, none⟩) 0 0, .slice (some ⟨w4.heap.size + 1, 0, none⟩) 0 0] 37)) := by
 have z := hB.size
 refine ⟨?_, ?_, below_alloc (below_alloc (below_alloc hB _) _) _⟩
 ·rw [List.length_replicate]
  exact Kd.R_alloc (Kd.R_alloc (Kd.R_alloc (Kd.R_mono (Kd.R_tight rfl hR) (fun k hk => by simpa [Value.ownBlock] using hk)) _) _) _
 ·have h0 := Kd.R_alloc (spec_l22Sizes.empty w4 w.heap.size z) (.cells #[] 3)
  have h1 := spec_l22Sizes.empty (w4.alloc (.cells #[] 3)) w.heap.size (by simp; omega)
  have e1 : (w4.alloc (.cells #[] 3)).heap.size = w4.heap.size + 1 := by simp
  rw [e1] at h1
  have h2 := rows_two (ts := 37) (ok := fun k => k ≠ gq) h0 h1 (fun k hk hk2 => by omega) (fun k hk => by simp; omega) (fun k hk => by simp; omega) (by simp; omega) (by simp; omega)
  have e2 : ((w4.alloc (.cells #[] 3)).alloc (.cells #[] 3)).heap.size = w4.heap.size + 1 + 1 := by simp
  rw [e2] at h2
  exact h2
def spec_l22Sizes.Mem3 (w : World) (go co ro cb F : Nat) (okf : Nat → Prop) (out : List Int) (rows : List (List Int)) (v9 : Value) (fr : List Int) (W : World) : Prop :=
 Kd.R (Kd.int .i64) 3 W w.heap.size (fun k => k = go) (.slice (some ⟨go, 0, none⟩) out.length co) out ∧
 Kd.S (Kd.slice 3 (Kd.int .i64)) 37 W w.heap.size (fun k => k ≠ go ∧ k < F) (.slice (some ⟨ro, 0, none⟩) rows.length cb) rows ∧
 Kd.R (Kd.int .i64) 3 W w.heap.size okf v9 fr ∧ (∀ k, okf k → F ≤ k) ∧ (∀ k, W.heap.size ≤ k → okf k) ∧ go < F ∧ F ≤ W.heap.size ∧ Below w.heap.size w W
theorem spec_l22Sizes.Mem3.below {w : World} {go co ro cb F : Nat} {okf : Nat → Prop} {out : List Int} {rows : List (List Int)} {v9 : Value} {fr : List Int} {W W' : World} (h : spec_l22Sizes.Mem3 w go co ro cb F okf out rows v9 fr W) (hb : Below W.heap.size W W') : spec_l22Sizes.Mem3 w go co ro cb F okf out rows v9 fr W' :=
 ⟨Kd.R_below h.1 hb, Kd.S_below h.2.1 hb, Kd.R_below h.2.2.1 hb, h.2.2.2.1, fun k hk => h.2.2.2.2.1 k (Nat.le_trans hb.size hk), h.2.2.2.2.2.1, Nat.le_trans h.2.2.2.2.2.2.1 hb.size, h.2.2.2.2.2.2.2.trans (hb.mono h.2.2.2.2.2.2.2.size)⟩
theorem spec_l22Sizes.Mem3.loose {w : World} {go co ro cb F : Nat} {okf : Nat → Prop} {out : List Int} {rows : List (List Int)} {v9 : Value} {fr : List Int} {W : World} (h : spec_l22Sizes.Mem3 w go co ro cb F okf out rows v9 fr W) : spec_l22Sizes.Mem3 w go co ro cb F (fun k => F ≤ k) out rows v9 fr W :=
 ⟨h.1, h.2.1, Kd.R_mono h.2.2.1 h.2.2.2.1, fun _ hk => hk, fun k hk => Nat.le_trans h.2.2.2.2.2.2.1 hk, h.2.2.2.2.2.1, h.2.2.2.2.2.2.1, h.2.2.2.2.2.2.2⟩
theorem spec_l22Sizes.Mem3.start {w : World} {go co ro cb : Nat} {out : List Int} {rows : List (List Int)} {W : World} (h : spec_l22Sizes.Mem w go co ro cb out rows W) (hg : w.heap.size ≤ go) :
  spec_l22Sizes.Mem3 w go co ro cb W.heap.size (fun k => W.heap.size ≤ k) out rows (.slice (some ⟨W.heap.size, 0, none⟩) 0 0) [] (W.alloc (.cells #[] 3)) := by
 obtain ⟨h1, h2, h3⟩ := h
 have hl := Kd.R_lt h1 go (by simp [Value.ownBlock])
 refine ⟨Kd.R_alloc h1 _, Kd.S_alloc (Kd.S_mono (Kd.S_bound h2) (fun k hk => ⟨hk.1, hk.2.2.1⟩)) _, Kd.R_mono (spec_l22Sizes.empty W w.heap.size h3.size) (fun k hk => by rw [hk]; exact Nat.le_refl _), fun _ hk => hk, fun k hk => ?_, hl, by simp, below_alloc h3 _⟩
 simp at hk; omega
theorem spec_l22Sizes.Mem3.put {w : World} {go co ro cb F : Nat} {okf : Nat → Prop} {out : List Int} {rows : List (List Int)} {v9 : Value} {fr : List Int} {W : World} (h : spec_l22Sizes.Mem3 w go co ro cb F okf out rows v9 fr W) (hg : w.heap.size ≤ go) (x : Nat) (s : Int) :
  spec_l22Sizes.Mem3 w go co ro cb F okf (out.set x s) rows v9 fr (W.setCell ⟨go, x, none⟩ (.int .i64 s)) := by
 obtain ⟨h1, h2, h3, h4, h5, h6, h7, h8⟩ := h
 have hz : (W.setCell ⟨go, x, none⟩ (.int .i64 s)).heap.size = W.heap.size := by simp [World.setCell]
 refine ⟨?_, Kd.S_far (p := ⟨go, x, none⟩) h2 (fun k hk => hk.1) _, Kd.R_far (p := ⟨go, x, none⟩) h3 (fun k hk => by have := h4 k hk; show k ≠ go; omega) _, h4, by rw [hz]; exact h5, h6, by rw [hz]; exact h7, h8.setCell (p := ⟨go, x, none⟩) hg _⟩
 rw [List.length_set]
 have := Kd.R_putn h1 (x : Int) s
 rw [Int.toNat_natCast] at this
 exact this
theorem spec_l22Sizes.Mem3.grow {w : World} {go co ro cb F : Nat} {okf : Nat → Prop} {out : List Int} {rows : List (List Int)} {v9 v8 : Value} {fr fr8 : List Int} {W w8 : World} (h : spec_l22Sizes.Mem3 w go co ro cb F okf out rows v9 fr W) (hr : Kd.R (Kd.int .i64) 3 w8 w.heap.size okf v8 fr8) (hb : Below w.heap.size w w8) (hg : W.grownBy w8 v9.ownBlock) :
  spec_l22Sizes.Mem3 w go co ro cb F okf out rows v8 fr8 w8 := by
 obtain ⟨h1, h2, h3, h4, h5, h6, h7, h8⟩ := h
 refine ⟨Kd.R_grown h1 hg (fun k hk e => ?_), Kd.S_grown h2 hg (fun k hk e => ?_), hr, h4, fun k hk => h5 k (Nat.le_trans hg.size hk), h6, Nat.le_trans h7 hg.size, hb⟩
 ·have := h4 k (h3.1 k e.symm); omega
 ·have := h4 k (h3.1 k e.symm); have := hk.2; omega
theorem spec_l22Sizes.aK {w : World} {go co ro cb F : Nat} {out : List Int} {rows : List (List Int)} {v9 : Value} {fr : List Int} {W : World} (h : spec_l22Sizes.Mem3 w go co ro cb F (fun k => F ≤ k) out rows v9 fr W) : ∀ k, F ≤ k → k ≠ go ∧ some k ≠ (Value.slice (some ⟨ro, 0, none⟩) rows.length cb).ownBlock := by
 intro k hk
 have h1 := h.2.1.elim (fun f h => h.1 ro (by simp [Value.ownBlock]))
 have h2 := h.2.2.2.2.2.1
 refine ⟨by omega, fun e => ?_⟩
 have : k = ro := by simpa [Value.ownBlock] using e
 omega
theorem spec_l22Sizes.aF {w : World} {go co ro cb F : Nat} {out : List Int} {rows : List (List Int)} {v9 : Value} {fr : List Int} {W : World} (h : spec_l22Sizes.Mem3 w go co ro cb F (fun k => F ≤ k) out rows v9 fr W) : ∀ k, W.heap.size ≤ k → k ≠ go := by
 intro k hk
 have h1 := Kd.R_lt h.1 go (by simp [Value.ownBlock])
 omega
theorem spec_l22Sizes.next {w : World} {go co ro cb F : Nat} {out : List Int} {rows : List (List Int)} {v9 v8 : Value} {fr : List Int} {W w8 : World} (h : spec_l22Sizes.Mem3 w go co ro cb F (fun k => F ≤ k) out rows v9 fr W) (hs : Kd.S (Kd.slice 3 (Kd.int .i64)) 37 w8 w.heap.size (fun k => k ≠ go) v8 (rows ++ [fr])) (hb : Below w.heap.size w w8) (hg : W.grownBy w8 (Value.slice (some ⟨ro, 0, none⟩) rows.length cb).ownBlock) :
  ∀ {r c}, v8 = .slice (some ⟨r, 0, none⟩) (rows ++ [fr]).length c → spec_l22Sizes.Mem w go co r c out (rows ++ [fr]) w8 := by
 rintro r c rfl
 refine ⟨Kd.R_grown h.1 hg (fun k hk e => ?_), hs, hb⟩
 have h1 := h.2.1.elim (fun f h => h.1 ro (by simp [Value.ownBlock]))
 have : k = ro := by simpa [Value.ownBlock] using e
 exact h1.1 (by rw [← this]; exact hk)
def spec_l22Sizes.Pd (rows : List (List Int)) (s a i j : Nat) (f g : Int) : Prop :=
 (∃ a', 1 ≤ a' ∧ a' < a ∧ f ∈ rows.getD a' [] ∧ g ∈ rows.getD (s - a') []) ∨ (f ∈ (rows.getD a []).take i ∧ g ∈ rows.getD (s - a) []) ∨ ((rows.getD a [])[i]? = some f ∧ g ∈ (rows.getD (s - a) []).take j)
theorem spec_l22Sizes.Pd_start {rows : List (List Int)} {s a : Nat} {f g : Int} (h : spec_l22Sizes.Pd rows s a 0 0 f g) : ∃ a', 1 ≤ a' ∧ a' < a ∧ f ∈ rows.getD a' [] ∧ g ∈ rows.getD (s - a') [] := by
 rcases h with h | ⟨h, _⟩ | ⟨_, h⟩
 ·exact h
 ·simp at h
 ·simp at h
theorem spec_l22Sizes.mem_take {l : List Int} {j : Nat} {g : Int} (h : g ∈ l.take (j + 1)) : g ∈ l.take j ∨ l[j]? = some g := by
 rw [List.take_add_one, List.mem_append] at h
 refine h.imp id (fun h => ?_)
 cases hq : l[j]? with
 | none => rw [hq] at h; cases h
 | some q => rw [hq] at h; simp at h; rw [h]
theorem spec_l22Sizes.Pd_j {rows : List (List Int)} {s a i j : Nat} {f g : Int} (h : spec_l22Sizes.Pd rows s a i (j + 1) f g) : spec_l22Sizes.Pd rows s a i j f g ∨ ((rows.getD a [])[i]? = some f ∧ (rows.getD (s - a) [])[j]? = some g) := by
 rcases h with h | h | ⟨h1, h2⟩
 ·exact .inl (.inl h)
 ·exact .inl (.inr (.inl h))
 ·rcases spec_l22Sizes.mem_take h2 with h3 | h3
  ·exact .inl (.inr (.inr ⟨h1, h3⟩))
  ·exact .inr ⟨h1, h3⟩
theorem spec_l22Sizes.Pd_i {rows : List (List Int)} {s a i : Nat} {f g : Int} (h : spec_l22Sizes.Pd rows s a (i + 1) 0 f g) : spec_l22Sizes.Pd rows s a i (rows.getD (s - a) []).length f g := by
 rcases h with h | ⟨h1, h2⟩ | ⟨_, h2⟩
 ·exact .inl h
 ·rcases spec_l22Sizes.mem_take h1 with h3 | h3
  ·exact .inr (.inl ⟨h3, h2⟩)
  ·exact .inr (.inr ⟨h3, by rw [List.take_length]; exact h2⟩)
 ·simp at h2
theorem spec_l22Sizes.Pd_a {rows : List (List Int)} {s a a' : Nat} {f g : Int} (h1 : 1 ≤ a') (h2 : a' < a + 1) (h3 : f ∈ rows.getD a' []) (h4 : g ∈ rows.getD (s - a') []) : spec_l22Sizes.Pd rows s a (rows.getD a []).length 0 f g := by
 by_cases e : a' = a
 ·subst e; exact .inr (.inl ⟨by rw [List.take_length]; exact h3, h4⟩)
 ·exact .inl ⟨a', h1, by omega, h3, h4⟩
theorem spec_l22Sizes.rd_get {l : List Int} {i : Nat} (h : i < l.length) : l[i]? = some (rd l (i : Int)) := by
 simp [rd, List.getD_eq_getElem?_getD, h]
theorem spec_l22Sizes.Mem3.beside {w : World} {go co ro cb F : Nat} {out : List Int} {rows : List (List Int)} {v9 : Value} {fr : List Int} {W : World} (h : spec_l22Sizes.Mem3 w go co ro cb F (fun k => F ≤ k) out rows v9 fr W) (o : Obj) : spec_l22Sizes.Mem3 w go co ro cb F (fun k => F ≤ k ∧ k ≠ W.heap.size) out rows v9 fr (W.alloc o).drew := by
 obtain ⟨h1, h2, h3, h4, h5, h6, h7, h8⟩ := h
 refine ⟨Kd.R_drew (Kd.R_alloc h1 _), Kd.S_drew (Kd.S_alloc h2 _), Kd.R_drew (Kd.R_alloc (Kd.R_mono (Kd.R_bound h3) (fun k hk => ⟨hk.1, by have := hk.2.2.1; omega⟩)) _), fun k hk => hk.1, fun k hk => ?_, h6, ?_, below_drew (below_alloc h8 _)⟩
 ·have : W.heap.size + 1 ≤ k := by simpa using hk
  exact ⟨by omega, by omega⟩
 ·show F ≤ (W.alloc o).heap.size
  simp; omega
def spec_l22Sizes.st (n s : Nat) (o : List Int × List Int) (x0 x1 : Nat) : Nat → List Int × List Int
 | 0 => o
 | 1 => szTake n s 0 o x0
 | _ => szTake n s 0 (szTake n s 0 o x0) x1
set_option maxHeartbeats 8000000 in
set_option maxRecDepth 100000 in
theorem spec_l22Sizes.nat (n : Nat) (hn : n ≤ 3) (w : World) :
  Calls Tryz.prog 46 #[.int .i64 (n : Int)] w fun e w' => ∃ v0_ : Value, e = .returned v0_ ∧ Kd.R (Kd.int .i64) 3 w' w.heap.size (fun _ => True) v0_ (szL n) ∧ Below w.heap.size w w' := by
 obtain ⟨N, hN⟩ : ∃ N, N = szN n := ⟨_, rfl⟩
 have hN2 : 2 ≤ N := by rw [hN]; exact szN_pos
 have hN256 : N ≤ 256 := by
  rw [hN]
  have h8 := Nat.pow_le_pow_right (show 0 < 2 by decide) (show n ≤ 3 by omega)
  have := Nat.pow_le_pow_right (show 0 < 2 by decide) (show 2 ^ n ≤ 8 by simpa using h8)
  simpa [szN] using this
 have CF := A_ (fun W => spec_l2Full.calls (n : Int) _ W (spec_l22Sizes.full hn hN))
 have HNN := A_ hN; clear hN
 go_enter Tryz.func46, Tryz.ntmps46
 go_wp2_with (first | (go_at_call 52; refine (CF.out _).mono ?_; rintro e w' ⟨rfl, ⟨nd, rfl⟩⟩) | ((with_reducible refine gate_dst (N := 18) rfl ?_); refine Kd.R_make (w0 := w) (Kd.int .i64) w.heap.size 3 rfl (N := 18) rfl 37 _ _ rfl (N : Int) (by first | rfl | (simp; done)) (by first | rfl | (simp; done)) Tryz.underlying37 (.int .i64 0) 8 info3 rfl (by decide) (by omega) 0 (ok := fun _ => True) (okp := fun _ => True) rfl (fun _ hk => hk) trivial (by omega) (by omega) (pw_below_drewN (Below.refl _ _) _) (by simp) ?_; intro v4 w4 ho hb hg_ hnew_; rw [Int.toNat_natCast] at ho; obtain ⟨gq, co, hv4, hgb, hgl, _⟩ := Kd.R_form ho (by rw [List.length_replicate]; omega); have hv5 : v4 = .slice (some ⟨gq, 0, none⟩) N co := (by rw [hv4]; simp); subst hv5; clear hv4 hg_ hnew_; have HR4 := A_ ho; have HB4 := A_ hb; have HG4 := A_ (And.intro hgb hgl); clear ho hb hgb hgl))
 have HM := A_ (spec_l22Sizes.start HR4.out HB4.out HG4.out)
 have HGW := A_ HG4.out.1
 obtain ⟨W6, hW6⟩ : ∃ W6, W6 = (((w4.alloc (.cells #[] 3)).alloc (.cells #[] 3)).alloc (.cells #[.slice (some ⟨w4.heap.size, 0, none⟩) 0 0, .slice (some ⟨w4.heap.size + 1, 0, none⟩) 0 0] 37)) := ⟨_, rfl⟩
 rw [← hW6] at HM ⊢
 clear hW6 HR4 HB4 HG4
 generalize w4.heap.size + 1 + 1 = r0 at *
 generalize w4.heap.size + 1 = zz1 at *
 generalize w4.heap.size = zz0 at *
 have HZ0 := A_ (szZero_ok hn)
 rw [← HNN.out] at HZ0
 go_loopg [5] n (fun gg v5 wr => ∃ (i : Nat) (out : List Int), i ≤ n ∧ n - i ≤ gg ∧ v5 = .int .i64 (i : Int) ∧ Aside0 (spec_l22Sizes.Mem w gq co r0 2 out [[], szLets n i] wr) ∧ Aside0 (SzI n 1 0 out (szLets n i)) ∧ Aside0 (szU n 0 out + 2 * i + 2 = szN n) ∧ Aside0 (∀ j, j < i → szIs n 0 out (szVar n j) = false ∧ szIs n 0 out (szN n - 1 - szVar n j) = false))
 case atStart => exact ⟨0, List.replicate N 0, Nat.zero_le _, by omega, rfl, HM, ⟨HZ0.out.1⟩, ⟨by rw [← HNN.out]; exact HZ0.out.2⟩, ⟨fun j hj => by omega⟩⟩
 case round =>
  clear HM HZ0; obtain ⟨i, out, hi, hg, rfl, HM, HI, HU, HV⟩ := hrel
  by_cases hlt : i < n
  ·have hltz : (i : Int) < (n : Int) := by omega
   obtain ⟨v1, v2, v3, v4⟩ := szVar_ok hn hlt
   have CV := A_ (fun W => spec_l2Variable.calls 10 (n : Int) (i : Int) _ W (spec_l22Sizes.var hn hlt))
   have HPUT := A_ (szLet_put hn hlt HI.out HU.out HV.out)
   rw [← HNN.out] at v1 HPUT
   have hlets : szLets n (i + 1) = szLets n i ++ [(szVar n i : Int), ((szN n - 1 - szVar n i : Nat) : Int)] := rfl
   have hlen : out.length = N := by rw [HI.out.len, HNN.out]
   rw [← HNN.out] at hlets
   have HLT := A_ hlets
   obtain ⟨_, _, v5⟩ := szLets_new hn hlt
   rw [← HNN.out] at v5
   have v6 := Ne.symm v5
   clear v2 v3 v4 hlets
   generalize szVar n i = v at *
   obtain ⟨a0, f0⟩ := Kd.R_celln 0 HM.out.1 ((v : Nat) : Int) (by omega) (by omega)
   obtain ⟨a1, f1⟩ := Kd.R_celln 0 HM.out.1 ((N - 1 - v : Nat) : Int) (by omega) (by omega)
   rw [Int.toNat_natCast] at a0 f0 a1 f1
   have t1 : ((N : Int) - 1 - (v : Int)).toNat = N - 1 - v := by omega
   have t2 : (0 : Int) ≤ (N : Int) - 1 - (v : Int) := by omega
   have t3 : (N : Int) - 1 - (v : Int) < (N : Int) := by omega
   have t4 : (v : Int) < (N : Int) := by omega
   have HL := A_ hlen
   have hM := HM.out
   unfold spec_l22Sizes.Mem at hM
   rw [hlen] at hM
   have HM2 := A_ hM; clear hM hlen HM HI HU HV
   generalize rdOf 0 out ((v : Nat) : Int) = y0 at *
   generalize rdOf 0 out ((N - 1 - v : Nat) : Int) = y1 at *
   go_wp2_with (first | (go_at_call 75; refine (CV.out _).mono ?_; rintro e w' ⟨rfl, ⟨nd1, rfl⟩⟩) | (go_at_call 52; refine (CF.out _).mono ?_; rintro e w' ⟨rfl, ⟨nd2, rfl⟩⟩))
   obtain ⟨W9, hW9⟩ : ∃ W9, W9 = ((((wr.drewN nd1).setCell ⟨gq, v, none⟩ (.int .i64 1)).drewN nd2).setCell ⟨gq, N - 1 - v, none⟩ (.int .i64 1)) := ⟨_, rfl⟩
   rw [← hW9]
   obtain ⟨hr9, hs9, hb9⟩ := HM2.out
   have hR9 : (Kd.int .i64).R 3 W9 w.heap.size (fun k => k = gq) (.slice (some ⟨gq, 0, none⟩) N co) ((out.set v 1).set (N - 1 - v) 1) := by
    have h1 := Kd.R_putn (Kd.R_drewN hr9 nd1) ((v : Nat) : Int) 1
    have h2 := Kd.R_putn (Kd.R_drewN h1 nd2) ((N - 1 - v : Nat) : Int) 1
    rw [Int.toNat_natCast, Int.toNat_natCast] at h2
    rw [hW9]; exact h2
   have hS9 : Kd.S (Kd.slice 3 (Kd.int .i64)) 37 W9 w.heap.size (fun k => k ≠ gq) (.slice (some ⟨r0, 0, none⟩) 2 2) [[], szLets n i] := by
    rw [hW9]
    exact Kd.S_far (p := ⟨gq, N - 1 - v, none⟩) (Kd.S_drewN (Kd.S_far (p := ⟨gq, v, none⟩) (Kd.S_drewN hs9 _) (fun k hk => hk) _) _) (fun k hk => hk) _
   have hB9 : Below w.heap.size w W9 := by
    rw [hW9]
    exact (pw_below_drewN ((pw_below_drewN hb9 _).setCell (p := ⟨gq, v, none⟩) HGW.out _) _).setCell (p := ⟨gq, N - 1 - v, none⟩) HGW.out _
   have lgq := Kd.R_lt hR9 gq (by simp [Value.ownBlock])
   have hlen1 : ((szLets n i).length + 2) * 8 ≤ 140737488355328 := by have h1 : (szLets n i).length = 2 * i := szLets_len n i; omega
   obtain ⟨A0, n0, cc0, r1, r2, r3, r4⟩ := rows_push (P := Tryz.prog) (t := 37) (ty := 37) Tryz.underlying37 info3 (fun k hk => by omega) hB9.size hS9 1 (by omega) [(v : Int), ((N - 1 - v : Nat) : Int)] hlen1
   have R4 : Aside0 (∀ W2 : World, Below W9.heap.size W9 W2 → (∀ j, j < 2 → W2.cell? ((⟨W9.heap.size, 0, none⟩ : Addr).add j) = some (.int .i64 ([(v : Int), ((N - 1 - v : Nat) : Int)].getD j 0))) → ∃ (v1 : Value) (w1 : World), (Builtin.append_ #[37, 37] 37 #[.slice A0 n0 cc0, .slice (some ⟨W9.heap.size, 0, none⟩) 2 2]).run Tryz.prog W2 = .ok v1 w1 ∧
     (∃ A1 n1 c1, v1 = .slice A1 n1 c1 ∧ w1.cell? ⟨r0, 1, none⟩ = some (.slice A0 n0 cc0) ∧ w1.frozen? ⟨r0, 1, none⟩ = false ∧ spec_l22Sizes.Mem w gq co r0 2 ((out.set v 1).set (N - 1 - v) 1) [[], szLets n (i + 1)] (w1.setCell ⟨r0, 1, none⟩ (.slice A1 n1 c1)))) := ⟨fun W2 hb hc => by
    obtain ⟨A1, n1, c1, w1, x1, x2, x3, x4, x5⟩ := r4 W2 ⟨W9.heap.size, 0, none⟩ 2 2 hb rfl hc
    refine ⟨_, w1, x1, A1, n1, c1, rfl, x2, x3, ?_⟩
    have hl : ((out.set v 1).set (N - 1 - v) 1).length = N := by simp [HL.out]
    unfold spec_l22Sizes.Mem
    rw [hl, HLT.out]
    refine ⟨?_, x5, (hB9.grown x4 hB9.size (fun k hk => (r3 k hk).2.2)).setCell (p := ⟨r0, 1, none⟩) (Kd.S_base hS9 r0 (by simp [Value.ownBlock])) _⟩
    refine Kd.R_far (p := ⟨r0, 1, none⟩) (Kd.R_grown hR9 x4 (fun k hk e => (r3 k e.symm).1 hk)) (fun k hk => ?_) _
    have := hS9.elim (fun f h => h.1 r0 (by simp [Value.ownBlock]))
    rw [hk]; exact this.symm⟩
   have e8 : (N : Int) - 1 - (v : Int) = ((N - 1 - v : Nat) : Int) := by omega
   clear hr9 hs9 hb9 hR9 hS9 hB9 r3 r4 a0 a1 f0 f1 hW9 lgq hlen1
   have n1 := World.new_ne W9 _ r1
   have r5 : ∀ nd o, ((W9.drewN nd).alloc o).cell? ⟨r0, 1, none⟩ = some (.slice A0 n0 cc0) := fun nd o => pw_cell_below (below_alloc (pw_below_drewN (Below.refl _ W9) nd) o) r1
   have e9 : IntKind.i64.wrap ((N - 1 - v : Nat) : Int) = ((N - 1 - v : Nat) : Int) := by rw [i64_w]; exact w64 (by omega) (by omega)
   go_region_law (first | ((refine step_app_ex (by rfl) _ _ _ (by rfl) _ _ _ (by rfl) (by rfl) (R4.out _ (by repeat (first | exact Below.refl _ _ | apply below_alloc | apply pw_below_drewN | apply below_drew)) (fun j hj => by rcases (show j = 0 ∨ j = 1 by omega) with h | h <;> subst h <;> rw [add_plain] <;> exact blk_cell (blk_new _ _) _)) ?_); rintro v7 w7 ⟨A7, n7, c7, rfl, e7, f7, HM7⟩; have HM7 := A_ HM7) | (go_simp; go_at_call 52; refine (CF.out _).mono ?_; rintro e w' ⟨rfl, ⟨nd3, rfl⟩⟩))
   all_goals
    go_wp2
    go_roundg (n - (i + 1))
    case measure => omega
    case rel => exact ⟨i + 1, _, by omega, by omega, by push_cast; rfl, HM7, ⟨HPUT.out.1⟩, ⟨by have h := HPUT.out.2.1; rw [← HNN.out]; exact h⟩, ⟨fun j hj => by have h := HPUT.out.2.2 j hj; rw [← HNN.out]; exact h⟩⟩
  ·have hin : i = n := by omega
   have hgo : decide ((i : Int) < (n : Int)) = false := decide_eq_false (by omega)
   have hgo2 : decide (i < n) = false := decide_eq_false (by omega)
   have hdone := szLet_done (u := 0) hn (out := out) (fun j hj => HV.out j (by omega))
   have HI2 := A_ (HI.out.next (Nat.le_refl _) hdone)
   have HR2 := A_ (SzR.push (u := 0) (by omega) (Nat.le_refl _) (SzR.one n) HI.out hdone)
   have hu : (N : Int) - 2 - 2 * (n : Int) = ((szU n 0 out : Nat) : Int) := by have h := HU.out; rw [← HNN.out] at h; omega
   have HUU := A_ hu
   have hN3 : (N : Int) - 1 + 1 = (N : Int) := by omega
   clear hdone HI HV hin hlt hi hg hu HU
   go_wp2_with (first | (go_at_call 52; refine (CF.out _).mono ?_; rintro e w' ⟨rfl, ⟨nd2, rfl⟩⟩))
   have HM2 : Aside0 (spec_l22Sizes.Mem w gq co r0 2 out ([[]] ++ [szLets n i]) (wr.drewN nd2)) := ⟨⟨Kd.R_drewN HM.out.1 _, Kd.S_drewN HM.out.2.1 _, pw_below_drewN HM.out.2.2 _⟩⟩
   clear HM hgo hgo2 hN3
   go_loopg [4, 7, 8] 12 (fun gg v4 v7 v8 wr => ∃ (s : Nat) (out : List Int) (rows : List (List Int)) (ro cb : Nat), 2 ≤ s ∧ s ≤ 11 ∧ 12 - s ≤ gg ∧ v4 = .slice (some ⟨ro, 0, none⟩) rows.length cb ∧ v7 = .int .i64 ((szU n 0 out : Nat) : Int) ∧ v8 = .int .i64 (s : Int) ∧ Aside0 (spec_l22Sizes.Mem w gq co ro cb out rows wr) ∧ Aside0 (SzI n s 0 out []) ∧ Aside0 (SzR n s rows))
   case atStart => exact ⟨2, out, [[]] ++ [szLets n i], r0, 2, Nat.le_refl _, by omega, by omega, rfl, by rw [← HUU.out], rfl, HM2, HI2, HR2⟩
   case round =>
    clear HM2 HI2 HR2 HUU; obtain ⟨s, out, rows, ro, cb, hs2, hs11, hg, rfl, rfl, rfl, HM, HI, HR⟩ := hrel
    by_cases hz : szU n 0 out = 0
    ·rw [hz]
     go_wp2
     go_ret
     have hfin : out = szL n := HI.out.full (fun x hx => szcnt_zero hz x hx)
     rw [← hfin]
     have h := HM.out.1
     rw [HI.out.len, ← HNN.out] at h
     exact ⟨_, rfl, Kd.R_mono h (fun _ _ => trivial), HM.out.2.2⟩
    ·have hs10 : s ≤ 10 := by
      rcases Nat.lt_or_ge 10 s with h | h
      ·exact absurd (szU_none hn HI.out h) hz
      ·exact h
     have hu9 : szU n 0 out ≤ 256 := Nat.le_trans (cnt_le _ _) (by rw [← HNN.out]; exact hN256)
     have hpos : (0 : Int) < ((szU n 0 out : Nat) : Int) := by omega
     have HM3 := A_ (spec_l22Sizes.Mem3.start HM.out HGW.out)
     obtain ⟨U, hU⟩ : ∃ U, U = szU n 0 out := ⟨_, rfl⟩
     have HU0 := A_ hU
     rw [← hU] at hu9 hpos ⊢
     have HRL := A_ HR.out.len
     obtain ⟨F, hF⟩ : ∃ F, F = wr.heap.size := ⟨_, rfl⟩
     rw [← hF] at HM3
     have HF := A_ hF
     have q1 : decide (0 < U) = true := decide_eq_true (by omega)
     have q2 : decide (0 < (U : Int)) = true := decide_eq_true hpos
     have q3 : decide ((U : Int) > 0) = true := decide_eq_true hpos
     have q4 : 0 < U := by omega
     clear hz hU hF HM
     go_wp2
     rw [← HF.out]
     have HI3 := A_ HI.out
     clear hpos HI HF q1 q2 q3 q4
     go_loopg [7, 9, 10] 12 (fun gg v7 v9 v10 wr => ∃ (a : Nat) (out fr : List Int), 1 ≤ a ∧ a ≤ s ∧ 12 - a ≤ gg ∧ v7 = .int .i64 ((szU n 0 out : Nat) : Int) ∧ v10 = .int .i64 (a : Int) ∧ Aside0 (spec_l22Sizes.Mem3 w gq co ro cb F (fun k => F ≤ k) out rows v9 fr wr) ∧ Aside0 (SzI n s 0 out fr) ∧ Aside0 (∀ a', 1 ≤ a' → a' < a → ∀ f, f ∈ rows.getD a' [] → ∀ g, g ∈ rows.getD (s - a') [] → szCov n 0 out f g))
     case atStart => exact ⟨1, out, [], Nat.le_refl _, by omega, by omega, by rw [← HU0.out], rfl, HM3, HI3, ⟨fun a' h1 h2 => by omega⟩⟩
     case round =>
      clear HM3 HI3 HU0 hu9; obtain ⟨a, out, fr, ha1, has, hg3, rfl, rfl, HM, HI, HC⟩ := hrel
      by_cases hlt : a < s
      ·have hltz : (a : Int) < (s : Int) := by omega
       have HC4 := A_ (fun f g (h : spec_l22Sizes.Pd rows s a 0 0 f g) => by obtain ⟨a', b1, b2, b3, b4⟩ := spec_l22Sizes.Pd_start h; exact HC.out a' b1 b2 f b3 g b4)
       obtain ⟨la, hla⟩ : ∃ la, la = (rows.getD a []).length := ⟨_, rfl⟩
       have hla9 : la ≤ 256 := by have h1 := HR.out.row a (by omega); rw [← hla, ← HNN.out] at h1; omega
       have HLA := A_ hla
       have ha3 : (a : Int) < (rows.length : Int) := by have := HRL.out; omega
       clear hla HC
       go_wp2
       go_loopg [7, 9, 11] la (fun gg v7 v9 v11 wr => ∃ (i : Nat) (out fr : List Int), i ≤ la ∧ la - i ≤ gg ∧ v7 = .int .i64 ((szU n 0 out : Nat) : Int) ∧ v11 = .int .i64 (i : Int) ∧ Aside0 (spec_l22Sizes.Mem3 w gq co ro cb F (fun k => F ≤ k) out rows v9 fr wr) ∧ Aside0 (SzI n s 0 out fr) ∧ Aside0 (∀ f g, spec_l22Sizes.Pd rows s a i 0 f g → szCov n 0 out f g))
       case atStart => exact ⟨0, out, fr, Nat.zero_le _, by omega, rfl, rfl, HM, HI, HC4⟩
       case round =>
        clear HM HI HC4; obtain ⟨i, out, fr, hi, hg4, rfl, rfl, HM, HI, HC⟩ := hrel
        obtain ⟨A1, cA, k1, _, _, _⟩ := rows_cell HM.out.2.1 a (by have := HRL.out; omega)
        rw [← HLA.out] at k1
        by_cases hlt4 : i < la
        ·have hltz4 : (i : Int) < (la : Int) := by omega
         obtain ⟨lb, hlb⟩ : ∃ lb, lb = (rows.getD (s - a) []).length := ⟨_, rfl⟩
         have hlb9 : lb ≤ 256 := by have h1 := HR.out.row (s - a) (by omega); rw [← hlb, ← HNN.out] at h1; omega
         have HLB := A_ hlb
         have hri := spec_l22Sizes.rd_get (l := rows.getD a []) (i := i) (by rw [← HLA.out]; exact hlt4)
         obtain ⟨_, p, hp, hpe, hpT⟩ := HR.out.mem a (rd (rows.getD a []) (i : Int)) (by omega) (List.mem_of_getElem? hri)
         rw [hpe] at hri
         have HP := A_ (And.intro hp (And.intro hpT (And.intro hri hpe)))
         have HC5 := A_ HC.out
         clear hlb hri hp hpe hpT
         go_wp2
         go_loopg [7, 9, 12] lb (fun gg v7 v9 v12 wr => ∃ (j : Nat) (out fr : List Int), j ≤ lb ∧ lb - j ≤ gg ∧ v7 = .int .i64 ((szU n 0 out : Nat) : Int) ∧ v12 = .int .i64 (j : Int) ∧ Aside0 (spec_l22Sizes.Mem3 w gq co ro cb F (fun k => F ≤ k) out rows v9 fr wr) ∧ Aside0 (SzI n s 0 out fr) ∧ Aside0 (∀ f g, spec_l22Sizes.Pd rows s a i j f g → szCov n 0 out f g))
         case atStart => exact ⟨0, out, fr, Nat.zero_le _, by omega, rfl, rfl, HM, HI, HC5⟩
         case round =>
          clear HM HI HC HC5 k1; obtain ⟨j, out, fr, hj, hg5, rfl, rfl, HM, HI, HC⟩ := hrel
          obtain ⟨B1, cB, m1, _, _, _⟩ := rows_cell HM.out.2.1 (s - a) (by have := HRL.out; omega)
          rw [← HLB.out] at m1
          have e4 : ((s : Int) - (a : Int)).toNat = s - a := by omega
          have e5 : (0 : Int) ≤ (s : Int) - (a : Int) := by omega
          have e6 : (s : Int) - (a : Int) < (rows.length : Int) := by have := HRL.out; omega
          by_cases hlt5 : j < lb
          ·have hltz5 : (j : Int) < (lb : Int) := by omega
           obtain ⟨g1, d1, k1, k2⟩ := rows_elem HM.out.2.1 a (by have := HRL.out; omega) i (by rw [← HLA.out]; exact hlt4)
           obtain ⟨g2, d2, k3, k4⟩ := rows_elem HM.out.2.1 (s - a) (by have := HRL.out; omega) j (by rw [← HLB.out]; exact hlt5)
           rw [← HLA.out] at k1
           rw [HP.out.2.2.2] at k2
           rw [← HLB.out] at k3
           have hB1 := m1.symm.trans k3
           injection hB1 with hB1
           injection hB1 with hB1 _ hcB
           subst hB1; subst hcB; clear k3
           have hrj := spec_l22Sizes.rd_get (l := rows.getD (s - a) []) (i := j) (by rw [← HLB.out]; exact hlt5)
           obtain ⟨_, q, hq, hqe, hqT⟩ := HR.out.mem (s - a) (rd (rows.getD (s - a) []) (j : Int)) (by omega) (List.mem_of_getElem? hrj)
           rw [hqe] at k4 hrj
           obtain ⟨hp, hpT, hri, _⟩ := HP.out
           obtain ⟨t1, t2⟩ := szT_pair hn hp hq (by omega) (by omega)
           have l1 : p &&& q < szN n := Nat.lt_of_le_of_lt Nat.and_le_left hp
           have l2 : p ||| q < szN n := Nat.or_lt_two_pow hp hq
           have hNle : szN n ≤ 256 := by rw [← HNN.out]; exact hN256
           obtain ⟨cv1, cv2⟩ := szPair_cov (u := 0) (s := s) (by omega) (by omega) (o := (out, fr)) HI.out.len hp hq
           have HC2 : Aside0 (∀ f g, spec_l22Sizes.Pd rows s a i (j + 1) f g → szCov n 0 (szPair n s 0 (out, fr) p q).1 f g) := ⟨fun f g h => by
            rcases spec_l22Sizes.Pd_j h with h | ⟨h1, h2⟩
            ·exact cv2 f g (HC.out f g h)
            ·have e1 : f = (p : Int) := by rw [hri] at h1; exact (Option.some.inj h1).symm
             have e2 : g = (q : Int) := by rw [hrj] at h2; exact (Option.some.inj h2).symm
             rw [e1, e2]; exact cv1⟩
           have ea : Go.bits .and .i64 (p : Int) (q : Int) = ((p &&& q : Nat) : Int) := and_nat (by omega) (by omega)
           have eo : Go.bits .or .i64 (p : Int) (q : Int) = ((p ||| q : Nat) : Int) := or_nat (by omega) (by omega)
           have HX := A_ (show (p &&& q < szN n ∧ szT n (p &&& q) ≤ s) ∧ (p ||| q < szN n ∧ szT n (p ||| q) ≤ s) from ⟨⟨l1, by omega⟩, ⟨l2, by omega⟩⟩)
           unfold szPair at HC2
           have n1 := World.new_ne wr _ k1
           have n2 := World.new_ne wr _ k2
           have n3 := World.new_ne wr _ m1
           have n4 := World.new_ne wr _ k4
           have e7 : IntKind.i64.wrap ((s : Int) - (a : Int)) = (s : Int) - (a : Int) := by rw [i64_w]; exact w64 (by omega) (by omega)
           have b1 : (0 : Int) ≤ (a : Int) := by omega
           have b2 : (0 : Int) ≤ (i : Int) := by omega
           have b3 : (0 : Int) ≤ (j : Int) := by omega
           clear cv1 cv2 hrj hq hqe hqT hp hpT hri t1 t2 l1 l2 hNle HC
           generalize p &&& q = x0 at *
           generalize p ||| q = x1 at *
           go_wp2
           go_region_held3 (fun w' => w'.cell? ⟨ro, a, none⟩ = some (.slice (some ⟨g1, 0, none⟩) la d1) ∧ w'.cell? ⟨g1, i, none⟩ = some (.int .i64 (p : Int)) ∧ w'.cell? ⟨ro, s - a, none⟩ = some (.slice (some ⟨g2, 0, none⟩) lb cB) ∧ w'.cell? ⟨g2, j, none⟩ = some (.int .i64 (q : Int))) (go_keep) (fail)
           go_wp2
           obtain ⟨L, hL⟩ : ∃ L, L = wr.heap.size := ⟨_, rfl⟩
           obtain ⟨W6, hW6⟩ : ∃ W6, W6 = (wr.alloc (.cells #[.int .i64 (x0 : Int), .int .i64 (x1 : Int)] 3)).drew := ⟨_, rfl⟩
           rw [← hL, ← hW6]
           have HM6 : Aside0 (spec_l22Sizes.Mem3 w gq co ro cb F (fun b => F ≤ b ∧ b ≠ L) out rows u9 fr W6) := ⟨by rw [hL, hW6]; exact HM.out.beside _⟩
           have HL6 : Aside0 (W6.heap[L]? = some (.cells #[.int .i64 (x0 : Int), .int .i64 (x1 : Int)] 3 (0, 0))) := ⟨by rw [hL, hW6]; exact blk_drew (blk_new wr _)⟩
           have HLF : Aside0 (L ≠ gq ∧ F ≤ L) := ⟨by have h1 := HM.out.2.2.2.2.2.1; have h2 := HM.out.2.2.2.2.2.2.1; rw [hL]; exact ⟨by omega, h2⟩⟩
           have HI6 := A_ HI.out
           clear hL hW6 n1 n2 n3 n4 e4 e5 e6 e7 b1 b2 b3 k1 k2 m1 k4 HM HI ea eo
           go_loopg [7, 9, 14] 2 (fun gg v7 v9 v14 wr => ∃ k : Nat, k ≤ 2 ∧ 2 - k ≤ gg ∧ v14 = .int .i64 (k : Int) ∧ v7 = .int .i64 ((szU n 0 (spec_l22Sizes.st n s (out, fr) x0 x1 k).1 : Nat) : Int) ∧ Aside0 (spec_l22Sizes.Mem3 w gq co ro cb F (fun b => F ≤ b ∧ b ≠ L) (spec_l22Sizes.st n s (out, fr) x0 x1 k).1 rows v9 (spec_l22Sizes.st n s (out, fr) x0 x1 k).2 wr) ∧ Aside0 (SzI n s 0 (spec_l22Sizes.st n s (out, fr) x0 x1 k).1 (spec_l22Sizes.st n s (out, fr) x0 x1 k).2) ∧ Aside0 (wr.heap[L]? = some (.cells #[.int .i64 (x0 : Int), .int .i64 (x1 : Int)] 3 (0, 0))))
           case atStart => exact ⟨0, by omega, by omega, rfl, rfl, HM6, HI6, HL6⟩
           case round =>
            clear HM6 HI6 HL6; obtain ⟨k, hk, hg6, rfl, rfl, HM, HI, HB⟩ := hrel
            by_cases hlt6 : k < 2
            ·have hltz6 : (k : Int) < 2 := by omega
             obtain ⟨x, hx, hxT, hcx, hnx⟩ : ∃ x, x < szN n ∧ szT n x ≤ s ∧ wr.cell? ⟨L, k, none⟩ = some (.int .i64 (x : Int)) ∧ spec_l22Sizes.st n s (out, fr) x0 x1 (k + 1) = szTake n s 0 (spec_l22Sizes.st n s (out, fr) x0 x1 k) x := by
              rcases (show k = 0 ∨ k = 1 by omega) with h | h
              ·subst h; exact ⟨x0, HX.out.1.1, HX.out.1.2, blk_cell HB.out 0, rfl⟩
              ·subst h; exact ⟨x1, HX.out.2.1, HX.out.2.2, blk_cell HB.out 1, rfl⟩
             have HNX := A_ hnx; clear hnx
             generalize hst1 : spec_l22Sizes.st n s (out, fr) x0 x1 (k + 1) = o1 at *
             have HO1 := A_ hst1; clear hst1
             generalize spec_l22Sizes.st n s (out, fr) x0 x1 k = o at *
             have hkeep := szTake_keep (u := 0) (by omega) (by omega) HI.out hx hxT
             have hleft := szTake_left (by omega) HI.out hx hxT
             have hnul := HI.out.nul hn hx
             rw [← HNX.out] at hkeep hleft
             have HKEEP := A_ hkeep
             have hlen : o.1.length = N := by rw [HI.out.len, HNN.out]
             have hlen1 : o1.1.length = N := by rw [hkeep.len, HNN.out]
             rw [← HNN.out] at hx
             obtain ⟨y1, z1⟩ := Kd.R_celln 0 HM.out.1 ((x : Nat) : Int) (by omega) (by omega)
             rw [Int.toNat_natCast] at y1 z1
             have y2 : wr.cell? ⟨gq, x, none⟩ = some (.int .i64 (rd o.1 (x : Int))) := y1
             have hxz : (x : Int) < (N : Int) := by omega
             have hu9 : szU n 0 o.1 ≤ 256 := Nat.le_trans (cnt_le _ _) (by rw [← HNN.out]; exact hN256)
             have hfl : o.2.length ≤ 256 := by have h := HI.out.cou; rw [← HNN.out] at h; omega
             have hcxn : ∀ nd, (wr.drewN nd).cell? ⟨L, k, none⟩ = some (.int .i64 (x : Int)) := fun nd => hcx
             have hyn : ∀ nd, (wr.drewN nd).cell? ⟨gq, x, none⟩ = some (.int .i64 (rd o.1 (x : Int))) := fun nd => y2
             have hzn : ∀ nd, (wr.drewN nd).frozen? ⟨gq, x, none⟩ = false := fun nd => z1
             have HLEN := A_ (And.intro hlen hlen1)
             have HLEFT := A_ hleft; have HFL := A_ hfl; have HXN := A_ hx; have HXT := A_ hxT; clear y1 hkeep hlen hlen1 hleft hfl hxT
             by_cases hc : szIs n 0 o.1 x = true
             ·obtain ⟨d1, d2, d3⟩ := hnul.mpr hc
              rw [← HNN.out] at d3
              rw [d1] at y2 hyn
              have HC6 := A_ hc
              have HPT := A_ (HI.out.put (Int.le_refl 0) (by omega) (by rw [← HNN.out]; exact HXN.out) HXT.out hc).2.1
              have d4 : (0 : Int) < (x : Int) := by omega
              have d5 : (x : Int) < (N : Int) - 1 := by omega
              have d7 := HLF.out.1
              have d8 := Ne.symm d7
              clear hnul hc d1 d3 hx
              go_wp2
              go_quiet (first | (go_at_call 52; (with_reducible refine (CF.out _).mono ?_); rintro e w' ⟨rfl, ⟨nd2, rfl⟩⟩; (first | exact ⟨rfl, _, World.drewN_drewN _ _ _⟩ | exact ⟨rfl, _, Eq.trans (World.drewN_drewN _ _ _) (congrArg (World.drewN _) (Nat.add_assoc _ _ _))⟩)))
              obtain ⟨Af, cf, ef⟩ := Kd.R_slice HM.out.2.2.1
              subst ef
              go_wp2_with (first | ((with_reducible refine gate_store (t := 3) (p := 157) rfl ?_); refine store_event (t := 3) (p := 157) (v := ?vo_w8) (w1 := ((wr.drewN nq).setCell ⟨gq, x, none⟩ (.int .i64 (s : Int)))) ?hg ?ho ?hn ?hr ?_; (case ho => rfl); (case hg => rfl); (case hn => rfl); (case hr => first | (go_simp; done) | (go_simp; rfl)); intro w7 hw; have HM7 : Aside0 (spec_l22Sizes.Mem3 w gq co ro cb F (fun b => F ≤ b ∧ b ≠ L) (o.1.set x (s : Int)) rows (.slice Af o.2.length cf) o.2 w7) := ⟨by rw [hw]; exact (HM.out.below (pw_below_drewN (Below.refl _ _) nq)).put HGW.out x (s : Int)⟩; have HB7 : Aside0 (w7.heap[L]? = some (.cells #[.int .i64 (x0 : Int), .int .i64 (x1 : Int)] 3 (0, 0))) := ⟨by rw [hw]; exact blk_far (p := ⟨gq, x, none⟩) HB.out HLF.out.1 _⟩; have hcx7 : w7.cell? ⟨L, k, none⟩ = some (.int .i64 (x : Int)) := (by rw [hw, World.cell?_setCell_other _ _ _ _ (by simp [HLF.out.1])]; exact hcx); clear hw) | ((with_reducible refine gate_builtin (b := .append) (xs := #[.tmp 158, .tmp 163]) rfl ?_); at_builtin; refine Kd.R_append (Kd.int .i64) (w0 := w) w.heap.size rfl (.tmp 158) (.tmp 163) 37 3 (.int .i64 0) 8 rfl Tryz.underlying37 info3 rfl (by decide) (by omega) (.slice Af o.2.length cf) o.2 (x : Int) [.int .i64 (x : Int)] (fun b => F ≤ b ∧ b ≠ L) (fun _ => False) rfl rfl ?aP (fun _ hk => hk.elim) ?aF ?aO ?aB ?aS ?aL ?_; (case aP => exact rfl); (case aB => exact HM7.out.2.2.2.2.2.2.2); (case aF => exact HM7.out.2.2.2.2.1); (case aO => exact HM7.out.2.2.1); (case aS => exact HM7.out.2.2.2.2.2.2.2.size); (case aL => have := HFL.out; omega); intro v8 w8 ho hb hg hat; have HB8 : Aside0 (w8.heap[L]? = some (.cells #[.int .i64 (x0 : Int), .int .i64 (x1 : Int)] 3 (0, 0))) := ⟨(hg.block L (blk_lt HB7.out) (fun e => (HM7.out.2.2.1.1 L e.symm).2 rfl)).trans HB7.out⟩; have HM8 := A_ (HM7.out.grow ho hb hg); clear ho hb hg hat))
              have ho1 : o1 = (o.1.set x (s : Int), o.2 ++ [(x : Int)]) := by rw [HNX.out]; exact if_pos HC6.out
              go_roundg (2 - (k + 1))
              case measure => omega
              case rel => exact ⟨k + 1, by omega, by omega, by push_cast; rfl, by have h := HPT.out; rw [HO1.out, ho1, ← h]; push_cast; congr 1; omega, ⟨by rw [HO1.out, ho1]; exact HM8.out⟩, ⟨by rw [HO1.out]; exact HKEEP.out⟩, HB8⟩
             ·have ho1 : o1 = o := by rw [HNX.out]; exact if_neg hc
              have hcase : rd o.1 (x : Int) ≠ 0 ∨ (rd o.1 (x : Int) = 0 ∧ x = 0) ∨ (rd o.1 (x : Int) = 0 ∧ 0 < x ∧ ¬ x + 1 < szN n) := by
               by_cases c1 : rd o.1 (x : Int) = 0
               ·by_cases c2 : 0 < x
                ·exact .inr (.inr ⟨c1, c2, fun c3 => hc (hnul.mp ⟨c1, c2, c3⟩)⟩)
                ·exact .inr (.inl ⟨c1, by omega⟩)
               ·exact .inl c1
              rw [← HNN.out] at hcase
              have HO2 := A_ ho1; clear hc hnul ho1
              generalize rd o.1 (x : Int) = y at *
              rcases hcase with d1 | ⟨d1, d2⟩ | ⟨d1, d2, d3⟩
              ·have d4 : (y == 0) = false := beq_eq_false_iff_ne.mpr d1
               have d6 : decide (y = 0) = false := decide_eq_false d1
               clear hx
               go_wp2
               go_quiet (fail)
               go_wp2
               go_roundg (2 - (k + 1))
               case measure => omega
               case rel => exact ⟨k + 1, by omega, by omega, by push_cast; rfl, by rw [HO1.out, HO2.out], ⟨by rw [HO1.out, HO2.out]; exact spec_l22Sizes.Mem3.below HM.out (pw_below_drewN (Below.refl _ _) _)⟩, ⟨by rw [HO1.out, HO2.out]; exact HI.out⟩, ⟨HB.out⟩⟩
              ·subst d1; subst d2; clear hx
               go_wp2
               go_quiet (fail)
               go_wp2
               go_roundg (2 - (k + 1))
               case measure => omega
               case rel => exact ⟨k + 1, by omega, by omega, by push_cast; rfl, by rw [HO1.out, HO2.out], ⟨by rw [HO1.out, HO2.out]; exact spec_l22Sizes.Mem3.below HM.out (pw_below_drewN (Below.refl _ _) _)⟩, ⟨by rw [HO1.out, HO2.out]; exact HI.out⟩, ⟨HB.out⟩⟩
              ·subst d1
               have d5 : decide ((x : Int) < (N : Int) - 1) = false := decide_eq_false (by omega)
               have d4 : (0 : Int) < (x : Int) := by omega
               clear hx
               go_wp2
               go_quiet (first | (go_at_call 52; (with_reducible refine (CF.out _).mono ?_); rintro e w' ⟨rfl, ⟨nd2, rfl⟩⟩; (first | exact ⟨rfl, _, World.drewN_drewN _ _ _⟩ | exact ⟨rfl, _, Eq.trans (World.drewN_drewN _ _ _) (congrArg (World.drewN _) (Nat.add_assoc _ _ _))⟩)))
               go_wp2
               go_roundg (2 - (k + 1))
               case measure => omega
               case rel => exact ⟨k + 1, by omega, by omega, by push_cast; rfl, by rw [HO1.out, HO2.out], ⟨by rw [HO1.out, HO2.out]; exact spec_l22Sizes.Mem3.below HM.out (pw_below_drewN (Below.refl _ _) _)⟩, ⟨by rw [HO1.out, HO2.out]; exact HI.out⟩, ⟨HB.out⟩⟩
            ·have hgo5 : decide ((k : Int) < 2) = false := decide_eq_false (by omega)
             have hgo6 : decide (k < 2) = false := decide_eq_false (by omega)
             have hk2 : k = 2 := by omega
             have HK2 := A_ hk2; clear hk2 hlt6
             go_wp2
             clear hgo5 hgo6
             go_roundg (lb - (j + 1))
             case measure => omega
             case rel => exact ⟨j + 1, (spec_l22Sizes.st n s (out, fr) x0 x1 k).1, (spec_l22Sizes.st n s (out, fr) x0 x1 k).2, by omega, by omega, rfl, by push_cast; rfl, ⟨HM.out.loose⟩, HI, ⟨by rw [HK2.out]; exact HC2.out⟩⟩
          ·have hgo5 : decide ((j : Int) < (lb : Int)) = false := decide_eq_false (by omega)
           have hgo6 : decide (j < lb) = false := decide_eq_false (by omega)
           have hjl : j = lb := by omega
           go_wp2
           clear hgo5 hgo6 e4 e5 e6
           go_roundg (la - (i + 1))
           case measure => omega
           case rel => exact ⟨i + 1, out, fr, by omega, by omega, rfl, by push_cast; rfl, HM, HI, ⟨fun f g h => HC.out f g (by rw [hjl, HLB.out]; exact spec_l22Sizes.Pd_i h)⟩⟩
        ·have hgo5 : decide ((i : Int) < (la : Int)) = false := decide_eq_false (by omega)
         have hgo6 : decide (i < la) = false := decide_eq_false (by omega)
         have hil : i = la := by omega
         go_wp2
         clear hgo5 hgo6
         go_roundg (12 - (a + 1))
         case measure => omega
         case rel => exact ⟨a + 1, out, fr, by omega, by omega, by omega, rfl, by push_cast; rfl, HM, HI, ⟨fun a' h1 h2 f h3 g h4 => HC.out f g (by rw [hil, HLA.out]; exact spec_l22Sizes.Pd_a h1 h2 h3 h4)⟩⟩
      ·have hgo3 : decide ((a : Int) < (s : Int)) = false := decide_eq_false (by omega)
       have hgo4 : decide (a < s) = false := decide_eq_false (by omega)
       have hdone := szCov_done (u := 0) hn hs2 HR.out (out := out) (fun a' h1 h2 => HC.out a' h1 (by omega))
       have HI4 := A_ (HI.out.next (by omega) hdone)
       have HR4 := A_ (SzR.push (u := 0) (by omega) (by omega) HR.out HI.out hdone)
       obtain ⟨Af, cf, ef⟩ := Kd.R_slice HM.out.2.2.1
       clear hdone HC; subst ef
       go_wp2_with (first | ((with_reducible refine gate_builtin (b := .append) (xs := #[.tmp 167, .tmp 169]) rfl ?_); at_builtin; refine Kd.S_append (Kd.slice 3 (Kd.int .i64)) (w0 := w) (W := wr) w.heap.size rfl (.tmp 167) (.tmp 169) 79 37 (.slice none 0 0) 24 rfl Tryz.underlying79 info37 rfl (by decide) (by omega) (.slice (some ⟨ro, 0, none⟩) rows.length cb) rows fr [.slice Af fr.length cf] (fun k => k ≠ gq) (fun k => F ≤ k) rfl rfl ⟨_, rfl, HM.out.2.2.1⟩ ?aK ?aF ?aO HM.out.2.2.2.2.2.2.2 HM.out.2.2.2.2.2.2.2.size (by have := HRL.out; omega) ?_; (case aK => exact spec_l22Sizes.aK HM.out); (case aF => exact spec_l22Sizes.aF HM.out); (case aO => exact Kd.S_mono HM.out.2.1 (fun k hk => ⟨hk.1, by omega⟩)); intro v8 w8 hs8 hb8 hg8 hat8; obtain ⟨ro8, cb8, hv8, _, _, _⟩ := Kd.S_form hs8 (by simp); subst hv8; have HM8 := A_ (spec_l22Sizes.next HM.out hs8 hb8 hg8 rfl); clear hs8 hb8 hg8 hat8))
       clear hgo3 hgo4
       go_roundg (12 - (s + 1))
       case measure => omega
       case rel => exact ⟨s + 1, out, rows ++ [fr], ro8, cb8, by omega, by omega, by omega, by first | rfl | simp, rfl, by push_cast; rfl, HM8, HI4, HR4⟩
theorem spec_l22Sizes.calls (a0 : Int) (r : List Int) (w : World) (h : spec_l22Sizes.f a0 = some r) :
  Calls Tryz.prog 46 #[.int .i64 a0] w fun e w' => ∃ v0_ : Value, e = .returned v0_ ∧ Kd.R (Kd.int .i64) 3 w' w.heap.size (fun _ => True) v0_ r ∧ Below w.heap.size w w' := by
 unfold spec_l22Sizes.f at h
 by_cases hc : 0 ≤ a0 ∧ a0 ≤ 3
 ·rw [if_pos hc] at h
  obtain ⟨n, rfl⟩ := nat_of hc.1
  rw [Int.toNat_natCast] at h
  rw [← Option.some.inj h]
  exact spec_l22Sizes.nat n (by omega) w
 ·rw [if_neg hc] at h; cases h
end Go.Proofs.YtfoopehlmnejaaaGreatDoor.Print
namespace Go.Proofs.YtfoopehlmnejaaaGreatDoor.Print
open Go.RowKit Go.Proofs.YtfoopehlmnejaaaGreatDoorW.PrintWords Go.Proofs.YtfoopehlmnejaaaGreatDoorW.PrintLast Go.Proofs.YtfoopehlmnejaaaGreatDoorW.PrintMore
attribute [local go_sem] max2_int min2_int max_two min_two max_three min_three max_four min_four   -- for this text's walks alone
set_option linter.unusedVariables false
set_option linter.unusedSimpArgs false
def spec_SmallestFormula.j0 : Nat → Bool → Int → Int → Option (ByteArray × Bool)
 | 0, _, _, _ => none
 | k + 1, x11, x291000, x291001 => if x11 = true then (some ((⟨#[]⟩ : ByteArray), false)) else ((spec_l22Sizes.f x291000).bind fun t292 => ((spec_l22Write.f k t292 x291000 x291001).bind fun t295 => (some (t295, true))))
def spec_SmallestFormula.f (k : Nat) (a0_0 : Int) (a0_1 : Int) : Option (ByteArray × Bool) := (spec_IsTable.f a0_0 a0_1).bind fun t291 => (if t291 = true then (spec_SmallestFormula.j0 k (decide (a0_0 > 3)) a0_0 a0_1) else (spec_SmallestFormula.j0 k true a0_0 a0_1))
def spec_SmallestFormula.T3 : Bool × List (List Nat × List Nat) := (true, [([], []), ([0], [0]), ([1], [1]), ([], []), ([3], [3]), ([], []), ([5], [5]), ([2, 4, 6, 2], [2, 4, 6]), ([7, 7, 0, 1, 2, 3, 4, 5, 6, 7], [7]), ([8, 0, 1, 2, 3, 4, 5, 6, 7, 8], [])])
def spec_SmallestFormula.B3 : List Nat := [0, 1, 3, 0, 8, 0, 32, 127, 255, 511]
theorem spec_SmallestFormula.tab3 : rtab .any (opsOf Tryz.f7 3) = spec_SmallestFormula.T3 := by kernel_rfl
theorem spec_SmallestFormula.bits3 : waitsOk spec_SmallestFormula.T3.2 spec_SmallestFormula.B3 = true := by kernel_rfl
set_option maxHeartbeats 8000000 in
set_option maxRecDepth 100000 in
theorem spec_SmallestFormula.calls (k : Nat) (a0_0 : Int) (a0_1 : Int) (r1 : ByteArray) (r2 : Bool) (w : World) (h : spec_SmallestFormula.f k a0_0 a0_1 = some (r1, r2)) :
  Calls Tryz.prog 7 #[.agg #[.int .i64 a0_0, .int .i64 a0_1]] w fun e w' => e = .returned (.tuple #[.string r1, .bool r2]) ∧ Below w.heap.size w w' := by
 have hu25 := Tryz.underlying25
 have HB := A_ (Below.refl w.heap.size w)
 have H : ((spec_IsTable.f a0_0 a0_1).bind fun t291 => (if t291 = true then (spec_SmallestFormula.j0 k (decide (a0_0 > 3)) a0_0 a0_1) else (spec_SmallestFormula.j0 k true a0_0 a0_1))) = some (r1, r2) := h
 clear h; have HC2 := A_ H; clear H
 go_enter Tryz.func7, Tryz.ntmps7
 go_upto_region 1 with (first | ((with_reducible refine gate_dst (N := 1) rfl ?_); refine box_event ?hg (N := 1) ?hd (cs := #[.int .i64 a0_0, .int .i64 a0_1]) (t := 25) ?hr ?_; (case hd => rfl); (case hg => rfl); (case hr => first | (go_simp; done) | (go_simp; rfl)); intro gb290 hg w3 hbox hb; have BK290 := A_ (hbox); have GW290 := A_ ((by rw [hg]; exact (below_size q0_) : w.heap.size ≤ gb290)); have GE290 := A_ ((by rw [hg]; exact (below_size q0_) : w.heap.size ≤ gb290)); replace HB := A_ (below_step q0_ hb); clear hb hbox hg))
 (try simp only [Act.put, List.setIfInBounds_toArray, List.set_cons_zero, List.set_cons_succ])
 go_cut [11] (fun v11 wc => ∃ (kq : Nat) (x11_1 : Bool), v11 = .bool x11_1 ∧ Aside0 (spec_SmallestFormula.j0 kq x11_1 a0_0 a0_1 = some (r1, r2)) ∧ Aside0 (kq ≤ k) ∧ Aside0 (wc.heap[gb290]? = some (.cells #[.int .i64 a0_0, .int .i64 a0_1] 25 (0, 0))) ∧ Aside0 (Below w.heap.size w wc))
 case first =>
  have H := HC2.out
  clear HC2; replace H := Option.bind_eq_some_iff.mp H; obtain ⟨t291, A40, H⟩ := H; (try dsimp only at H); have A4 := A_ A40; clear A40
  by_cases c5 : t291 = true
  ·subst c5
   have H1 : (spec_SmallestFormula.j0 k (decide (a0_0 > 3)) a0_0 a0_1) = some (r1, r2) := by rw [if_pos rfl] at H; exact H
   clear H; have H := H1; clear H1
   have H' := A_ H
   clear H
   have hcz6_0 := c20_ BK290
   have hcz6_1 := c21_ BK290
   have hfz6_0 := blk_frozen BK290.out 0
   have hfz6_1 := blk_frozen BK290.out 1
   go_wp2_with (first | ((with_reducible refine gate_callee (f := 44) rfl ?_); refine goesL_ (some 5) rfl rfl Tryz.func44 kr_ rfl #[.agg #[.int .i64 a0_0, .int .i64 a0_1]] rfl q2_ ?_; (with_reducible refine (spec_IsTable.calls a0_0 a0_1 true _ A4.out).mono ?_); rintro e w7 ⟨rfl, hb⟩; refine ⟨_, rfl, ?_⟩; replace BK290 := A_ (blk_below (M.Lb BK290) hb); replace HB := A_ (below_step q0_ hb); clear hb; have hcz8_0 := c20_ BK290; have hcz8_1 := c21_ BK290; have hfz8_0 := blk_frozen BK290.out 0; have hfz8_1 := blk_frozen BK290.out 1))
   go_meet
   case rel => exact ⟨_, (decide (a0_0 > 3)), q1_, H', ⟨q12_⟩, ⟨M.Lb BK290⟩, ⟨q0_⟩⟩
  ·replace c5 := Bool.eq_false_iff.mpr c5
   subst c5
   have H1 : (spec_SmallestFormula.j0 k true a0_0 a0_1) = some (r1, r2) := by rw [if_neg (show ¬ (false = true) by decide)] at H; exact H
   clear H; have H := H1; clear H1
   have H' := A_ H
   clear H
   have hcz9_0 := c20_ BK290
   have hcz9_1 := c21_ BK290
   have hfz9_0 := blk_frozen BK290.out 0
   have hfz9_1 := blk_frozen BK290.out 1
   go_wp2_with (first | ((with_reducible refine gate_callee (f := 44) rfl ?_); refine goesL_ (some 5) rfl rfl Tryz.func44 kr_ rfl #[.agg #[.int .i64 a0_0, .int .i64 a0_1]] rfl q2_ ?_; (with_reducible refine (spec_IsTable.calls a0_0 a0_1 false _ A4.out).mono ?_); rintro e w10 ⟨rfl, hb⟩; refine ⟨_, rfl, ?_⟩; replace BK290 := A_ (blk_below (M.Lb BK290) hb); replace HB := A_ (below_step q0_ hb); clear hb))
   go_meet
   case rel => exact ⟨_, (true), q1_, H', ⟨q12_⟩, ⟨M.Lb BK290⟩, ⟨q0_⟩⟩
 case rest =>
  clear HC2; obtain ⟨kq, x11_1, rfl, HA, HJ1, BK290, HB⟩ := hcut
  cases kq with
  | zero => exact absurd HA.out (by simp [spec_SmallestFormula.j0])
  | succ kj1 =>
   have H := HA.out
   clear HA
   simp only [spec_SmallestFormula.j0] at H
   by_cases c11 : x11_1 = true
   ·subst c11
    have H1 : (some ((⟨#[]⟩ : ByteArray), false)) = some (r1, r2) := by rw [if_pos rfl] at H; exact H
    clear H; have H := H1; clear H1
    simp only [Option.some.injEq, Prod.mk.injEq] at H
    obtain ⟨rfl, rfl⟩ := H
    go_wp2
    go_ret2
    exact ⟨q6_, q0_⟩
   ·replace c11 := Bool.eq_false_iff.mpr c11
    subst c11
    have H1 : ((spec_l22Sizes.f a0_0).bind fun t292 => ((spec_l22Write.f kj1 t292 a0_0 a0_1).bind fun t295 => (some (t295, true)))) = some (r1, r2) := by rw [if_neg (show ¬ (false = true) by decide)] at H; exact H
    clear H; have H := H1; clear H1; replace H := Option.bind_eq_some_iff.mp H; obtain ⟨t292, A120, H⟩ := H
    replace H : ((spec_l22Write.f kj1 t292 a0_0 a0_1).bind fun t295 => (some (t295, true))) = some (r1, r2) := H
    have A12 := A_ A120; clear A120; replace H := Option.bind_eq_some_iff.mp H; obtain ⟨t295, A130, H⟩ := H
    replace H : (some (t295, true)) = some (r1, r2) := H
    have A13 := A_ A130; clear A130
    simp only [Option.some.injEq, Prod.mk.injEq] at H
    obtain ⟨rfl, rfl⟩ := H
    try go_wp2
    have n0_ := A_ (blk_drew BK290.out)
    have n1_ := A_ (below_drew1 HB.out)
    clear BK290; clear HB; have BK290 := n0_; have HB := n1_; clear n0_ n1_
    refine start_ (n := 10) (S := fun w' => w'.cell? ⟨gb290, 0, none⟩ = some (.int .i64 a0_0) ∧ w'.cell? ⟨gb290, 1, none⟩ = some (.int .i64 a0_1)) (ds := []) #[false, false, false, false, false, false, false, false, false, false] kr_ rfl rfl ⟨(blk_cell BK290.out 0).trans rfl, (blk_cell BK290.out 1).trans rfl⟩ (fun hHeld => ?_); refine with_tabW spec_SmallestFormula.tab3 spec_SmallestFormula.bits3 (fun HT_ HW_ => ?_)
    generalize wc.drew = w14 at BK290 HB hHeld ⊢
    refine pure_ (i := 0) (N := some 12) (v := ?_) (a' := ?_) #[true, false, false, false, false, false, false, false, false, false] rfl rfl (any_of HT_.out kr_) (fun _ _ _ h => h) (Or.inl ⟨by rfl, ?_⟩) ?_ ?_; rotate_left
    ·intro w'; go_simp; with_reducible rfl
    rotate_left
    ·simp only [Act.put, List.setIfInBounds_toArray, List.set_cons_zero, List.set_cons_succ, i64_w, i32_w]; rfl
    refine pure_ (i := 3) (N := some 15) (v := ?_) (a' := ?_) #[true, false, false, true, false, false, false, false, false, false] rfl rfl (any_of HT_.out kr_) (fun _ _ _ h => h) (Or.inl ⟨by rfl, ?_⟩) ?_ ?_; rotate_left
    ·intro w'; go_simp; with_reducible rfl
    rotate_left
    ·simp only [Act.put, List.setIfInBounds_toArray, List.set_cons_zero, List.set_cons_succ, i64_w, i32_w]; rfl
    refine pure_ (i := 5) (N := some 17) (v := ?_) (a' := ?_) #[true, false, false, true, false, true, false, false, false, false] rfl rfl (any_of HT_.out kr_) (fun _ _ _ h => h) (Or.inl ⟨by rfl, ?_⟩) ?_ ?_; rotate_left
    ·intro w'; go_simp; with_reducible rfl
    rotate_left
    ·simp only [Act.put, List.setIfInBounds_toArray, List.set_cons_zero, List.set_cons_succ, i64_w, i32_w]; rfl
    refine take_ (i := 1) (N := some 13) (v := ?_) (a' := ?_) #[true, true, false, true, false, true, false, false, false, false] rfl rfl (take_ofW HT_.out HW_.out kr_) (fun _ _ _ h => h) (Or.inl ⟨by rfl, ?_⟩) hHeld ?_ ?_
    rotate_left
    ·rintro w' ⟨s0, s1⟩
     go_simp; with_reducible rfl
    rotate_left
    ·simp only [Act.put, List.setIfInBounds_toArray, List.set_cons_zero, List.set_cons_succ, i64_w, i32_w]; rfl
    refine take_ (i := 4) (N := some 16) (v := ?_) (a' := ?_) #[true, true, false, true, true, true, false, false, false, false] rfl rfl (take_ofW HT_.out HW_.out kr_) (fun _ _ _ h => h) (Or.inl ⟨by rfl, ?_⟩) hHeld ?_ ?_
    rotate_left
    ·rintro w' ⟨s0, s1⟩
     go_simp; with_reducible rfl
    rotate_left
    ·simp only [Act.put, List.setIfInBounds_toArray, List.set_cons_zero, List.set_cons_succ, i64_w, i32_w]; rfl
    refine take_ (i := 6) (N := some 18) (v := ?_) (a' := ?_) #[true, true, false, true, true, true, true, false, false, false] rfl rfl (take_ofW HT_.out HW_.out kr_) (fun _ _ _ h => h) (Or.inl ⟨by rfl, ?_⟩) hHeld ?_ ?_
    rotate_left
    ·rintro w' ⟨s0, s1⟩
     go_simp; with_reducible rfl
    rotate_left
    ·simp only [Act.put, List.setIfInBounds_toArray, List.set_cons_zero, List.set_cons_succ, i64_w, i32_w]; rfl
    refine one_ (i := 2) (N := some 14) #[true, true, true, true, true, true, true, false, false, false] rfl rfl (one_of HT_.out kr_) (by decide) (fun K hK => ?_)
    refine goes_ Tryz.func46 kr_ rfl #[.int .i64 a0_0] (by rfl) rfl rfl q2_ ?_
    with_reducible refine (spec_l22Sizes.calls a0_0 t292 _ A12.out).mono ?_
    rintro e w15 ⟨v293, rfl, ho0, hb⟩
    refine ⟨_, rfl, ?_⟩
    have n0_ := A_ (Kd.R_lower ho0 (below_size q0_))
    have n1_ := A_ (blk_below (M.Lb BK290) hb)
    have n2_ := A_ (below_step q0_ hb)
    clear BK290; clear HB; have HO294 := n0_; have BK290 := n1_; have HB := n2_; clear n0_ n1_ n2_; clear hb ho0
    obtain ⟨Ao16, co16, eo16⟩ := Kd.R_slice HO294.out
    (first | subst eo16 | (injection eo16 with f1_ f2_ f3_; have f4_ := f1_.symm; have f5_ := f3_.symm; clear f1_ f2_ f3_; subst f4_; subst f5_))
    refine hK.out _ _ ⟨(blk_cell BK290.out 0).trans rfl, (blk_cell BK290.out 1).trans rfl⟩ (fun hHeld => ?_)
    clear hK K
    refine norm_ (a' := ?_) ?_ ?_
    rotate_left
    ·show Act.put _ (some 14) _ = _
     simp only [Act.put, List.setIfInBounds_toArray, List.set_cons_zero, List.set_cons_succ, i64_w, i32_w]; rfl
    refine one_ (i := 7) (N := some 19) #[true, true, true, true, true, true, true, true, false, false] rfl rfl (one_of HT_.out kr_) (by decide) (fun K hK => ?_)
    refine goes_ Tryz.func45 kr_ rfl #[.slice Ao16 t292.length co16, .int .i64 a0_0, .int .i64 a0_1] (by rfl) rfl rfl q2_ ?_
    with_reducible refine (spec_l22Write.calls kj1 _ _ t292 a0_0 a0_1 t295 _ ?side1 ?side2 A13.out).mono ?_
    (case side1 => repeat (first | exact (Kd.R_reads' HO294.out).2.2 | (with_reducible refine Kd.C_alloc ?_ _) | (with_reducible refine Kd.C_drewN ?_ _) | (with_reducible refine Kd.C_drew ?_)))
    (case side2 => exact (Kd.R_reads' HO294.out).2.1)
    rintro e w' ⟨rfl, ⟨nd, rfl⟩⟩
    refine ⟨_, rfl, ?_⟩
    refine hK.out _ _ ⟨(blk_cell BK290.out 0).trans rfl, (blk_cell BK290.out 1).trans rfl⟩ (fun hHeld => ?_)
    clear hK K
    refine norm_ (a' := ?_) ?_ ?_
    rotate_left
    ·show Act.put _ (some 19) _ = _
     simp only [Act.put, List.setIfInBounds_toArray, List.set_cons_zero, List.set_cons_succ, i64_w, i32_w]; rfl
    refine pure_ (i := 8) (N := some 2) (v := ?_) (a' := ?_) #[true, true, true, true, true, true, true, true, true, false] rfl rfl (any_of HT_.out kr_) (fun _ _ _ h => h) (Or.inl ⟨by rfl, ?_⟩) ?_ ?_; rotate_left
    ·intro w'; go_simp; with_reducible rfl
    rotate_left
    ·simp only [Act.put, List.setIfInBounds_toArray, List.set_cons_zero, List.set_cons_succ, i64_w, i32_w]; rfl
    refine pure_ (i := 9) (N := some 3) (v := ?_) (a' := ?_) #[true, true, true, true, true, true, true, true, true, true] rfl rfl (any_of HT_.out kr_) (fun _ _ _ h => h) (Or.inl ⟨by rfl, ?_⟩) ?_ ?_; rotate_left
    ·intro w'; go_simp; with_reducible rfl
    rotate_left
    ·simp only [Act.put, List.setIfInBounds_toArray, List.set_cons_zero, List.set_cons_succ, i64_w, i32_w]; rfl
    refine done_ (done_of HT_.out kr_) ?_
    try go_wp2
    go_ret2
    exact ⟨q6_, q0_⟩
end Go.Proofs.YtfoopehlmnejaaaGreatDoor.Print
namespace Go.Proofs.YtfoopehlmnejaaaGreatDoor.Print
open Go.RowKit Go.Proofs.YtfoopehlmnejaaaGreatDoorW.PrintWords Go.Proofs.YtfoopehlmnejaaaGreatDoorW.PrintLast Go.Proofs.YtfoopehlmnejaaaGreatDoorW.PrintMore
attribute [local go_sem] max2_int min2_int max_two min_two max_three min_three max_four min_four   -- for this text's walks alone
set_option linter.unusedVariables false
set_option linter.unusedSimpArgs false
open Go.Proofs.YtfoopehlmnejaaaGreatDoor.M
def impl_FormulaSize.f (a0_0 : Int) (a0_1 : Int) : Option Int := (impl_isSmall.f a0_0 a0_1 3).bind fun t => if t = true then ((impl_sizes.f a0_0).bind fun l => if 0 ≤ a0_1 ∧ a0_1 < (l.length : Int) then some (rd l a0_1) else none) else some (-1)
set_option maxHeartbeats 4000000 in
set_option maxRecDepth 100000 in
theorem impl_FormulaSize.calls (a0_0 : Int) (a0_1 : Int) (r : Int) (w : World) (h : impl_FormulaSize.f a0_0 a0_1 = some r) :
  Calls Tryz.prog 8 #[.agg #[.int .i64 a0_0, .int .i64 a0_1]] w fun e w' => e = .returned (.int .i64 r) ∧ Below w.heap.size w w' := by
 have huT := Tryz.underlying25
 unfold impl_FormulaSize.f at h
 obtain ⟨q, hq, h⟩ := Option.bind_eq_some_iff.mp h
 obtain ⟨W0, hW0⟩ : ∃ W0, W0 = w.alloc (.cells #[.int .i64 a0_0, .int .i64 a0_1] 25) := ⟨_, rfl⟩
 have HB : Below w.heap.size w W0 := by rw [hW0]; exact (Below.refl _ _).alloc (Nat.le_refl _) _
 have c0 : W0.heap[w.heap.size]? = some (.cells #[.int .i64 a0_0, .int .i64 a0_1] 25 (0, 0)) := by rw [hW0]; exact blk_new w _
 have HBB := A_ HB; have HQ := A_ hq; have CW := A_ hW0; have C0 := A_ c0; clear hq HB c0 hW0
 by_cases hc : q = true
 ·rw [if_pos hc] at h
  obtain ⟨l, hl, h⟩ := Option.bind_eq_some_iff.mp h
  by_cases hb : 0 ≤ a0_1 ∧ a0_1 < (l.length : Int)
  ·rw [if_pos hb] at h
   have h := Option.some.inj h
   obtain ⟨hb0, hb1⟩ := hb
   have CS := A_ (fun W => impl_sizes.calls a0_0 l W hl)
   have HRR := A_ h; subst hc; clear h hl
   go_enter Tryz.func8, Tryz.ntmps8
   go_wp2_with (first | (go_at_call 41; rw [← CW.out]; (with_reducible refine (impl_isSmall.calls _ _ _ _ _ HQ.out).mono ?_); rintro e w1 ⟨rfl, hb⟩; have B1 := A_ hb; clear hb; have p0 := blk_cell (blk_below C0.out B1.out) 0; have p1 := blk_cell (blk_below C0.out B1.out) 1))
   have p0' : ∀ W, Below w1.heap.size w1 W → W.cell? ⟨w.heap.size, 0, none⟩ = some (.int .i64 a0_0) := fun W hb => blk_cell (blk_below (blk_below C0.out B1.out) hb) 0
   have p1' : ∀ W, Below w1.heap.size w1 W → W.cell? ⟨w.heap.size, 1, none⟩ = some (.int .i64 a0_1) := fun W hb => blk_cell (blk_below (blk_below C0.out B1.out) hb) 1
   have P0 := A_ p0'
   have P1 := A_ p1'
   clear p0' p1'
   go_region_with (first | (go_at_call 43; (with_reducible refine (CS.out _).mono ?_); rintro e w3 ⟨v3, rfl, hr3, hb3⟩; obtain ⟨g3, c3, ev, _, _, _⟩ := Kd.R_form hr3 (by omega); subst ev; have hcell := (Kd.R_celln 0 hr3 a0_1 hb0 (by omega)).1; have hcell' : w3.cell? ⟨g3, a0_1.toNat, none⟩ = some (.int .i64 (rd l a0_1)) := hcell; have hb4 : Below w1.heap.size w1 w3 := (below_drew (Below.refl _ w1)).trans hb3; have q0 := P0.out _ hb4; have q1 := P1.out _ hb4; have HB4 := A_ hb4; clear hcell hr3 hb3 hb4))
   all_goals
    go_wp2
    go_ret
    exact ⟨by first | rfl | (rw [← HRR.out]; rfl), HBB.out.trans ((B1.out.trans (HB4.out.mono B1.out.size)).mono HBB.out.size)⟩
  ·rw [if_neg hb] at h; cases h
 ·rw [if_neg hc] at h
  have h := Option.some.inj h
  subst h
  cases q with
  | false =>
   clear hc
   go_enter Tryz.func8, Tryz.ntmps8
   go_wp2_with (first | (go_at_call 41; rw [← CW.out]; (with_reducible refine (impl_isSmall.calls _ _ _ _ _ HQ.out).mono ?_); rintro e w1 ⟨rfl, hb⟩; have B1 := A_ hb; clear hb; have p0 := blk_cell (blk_below C0.out B1.out) 0; have p1 := blk_cell (blk_below C0.out B1.out) 1))
   go_ret
   exact ⟨rfl, HBB.out.trans (B1.out.mono HBB.out.size)⟩
  | true => exact absurd rfl hc
end Go.Proofs.YtfoopehlmnejaaaGreatDoor.Print
namespace Go.Proofs.YtfoopehlmnejaaaGreatDoor.Print
open Go.RowKit Go.Proofs.YtfoopehlmnejaaaGreatDoorW.PrintWords Go.Proofs.YtfoopehlmnejaaaGreatDoorW.PrintLast Go.Proofs.YtfoopehlmnejaaaGreatDoorW.PrintMore
attribute [local go_sem] max2_int min2_int max_two min_two max_three min_three max_four min_four   -- for this text's walks alone
set_option linter.unusedVariables false
set_option linter.unusedSimpArgs false
open Go.Proofs.YtfoopehlmnejaaaGreatDoor.M
def spec_FormulaSize.f (a0_0 : Int) (a0_1 : Int) : Option Int := (spec_IsTable.f a0_0 a0_1).bind fun t => if t = true ∧ a0_0 ≤ 3 then ((spec_l22Sizes.f a0_0).bind fun l => if 0 ≤ a0_1 ∧ a0_1 < (l.length : Int) then some (rd l a0_1) else none) else some (-1)
set_option maxHeartbeats 4000000 in
set_option maxRecDepth 100000 in
theorem spec_FormulaSize.calls (a0_0 : Int) (a0_1 : Int) (r : Int) (w : World) (h : spec_FormulaSize.f a0_0 a0_1 = some r) :
  Calls Tryz.prog 9 #[.agg #[.int .i64 a0_0, .int .i64 a0_1]] w fun e w' => e = .returned (.int .i64 r) ∧ Below w.heap.size w w' := by
 have huT := Tryz.underlying25
 unfold spec_FormulaSize.f at h
 obtain ⟨q, hq, h⟩ := Option.bind_eq_some_iff.mp h
 obtain ⟨W0, hW0⟩ : ∃ W0, W0 = w.alloc (.cells #[.int .i64 a0_0, .int .i64 a0_1] 25) := ⟨_, rfl⟩
 have HB : Below w.heap.size w W0 := by rw [hW0]; exact (Below.refl _ _).alloc (Nat.le_refl _) _
 have c0 : W0.heap[w.heap.size]? = some (.cells #[.int .i64 a0_0, .int .i64 a0_1] 25 (0, 0)) := by rw [hW0]; exact blk_new w _
 have HBB := A_ HB; have HQ := A_ hq; have CW := A_ hW0; have C0 := A_ c0; clear hq HB c0 hW0
 by_cases hc : q = true ∧ a0_0 ≤ 3
 ·rw [if_pos hc] at h
  obtain ⟨l, hl, h⟩ := Option.bind_eq_some_iff.mp h
  by_cases hb : 0 ≤ a0_1 ∧ a0_1 < (l.length : Int)
  ·rw [if_pos hb] at h
   have h := Option.some.inj h
   obtain ⟨hb0, hb1⟩ := hb
   have CS := A_ (fun W => spec_l22Sizes.calls a0_0 l W hl)
   have HRR := A_ h; obtain ⟨rfl, hc3⟩ := hc
   have hg : decide (a0_0 > 3) = false := decide_eq_false (by omega)
   have hg2 : decide (3 < a0_0) = false := decide_eq_false (by omega)
   clear h hl
   go_enter Tryz.func9, Tryz.ntmps9
   go_wp2_with (first | (go_at_call 44; rw [← CW.out]; (with_reducible refine (spec_IsTable.calls _ _ _ _ HQ.out).mono ?_); rintro e w1 ⟨rfl, hb⟩; have B1 := A_ hb; clear hb; have p0 := blk_cell (blk_below C0.out B1.out) 0; have p1 := blk_cell (blk_below C0.out B1.out) 1))
   have p0' : ∀ W, Below w1.heap.size w1 W → W.cell? ⟨w.heap.size, 0, none⟩ = some (.int .i64 a0_0) := fun W hb => blk_cell (blk_below (blk_below C0.out B1.out) hb) 0
   have p1' : ∀ W, Below w1.heap.size w1 W → W.cell? ⟨w.heap.size, 1, none⟩ = some (.int .i64 a0_1) := fun W hb => blk_cell (blk_below (blk_below C0.out B1.out) hb) 1
   have P0 := A_ p0'
   have P1 := A_ p1'
   clear p0' p1'
   go_region_with (first | (go_at_call 46; (with_reducible refine (CS.out _).mono ?_); rintro e w3 ⟨v3, rfl, hr3, hb3⟩; obtain ⟨g3, c3, ev, _, _, _⟩ := Kd.R_form hr3 (by omega); subst ev; have hcell := (Kd.R_celln 0 hr3 a0_1 hb0 (by omega)).1; have hcell' : w3.cell? ⟨g3, a0_1.toNat, none⟩ = some (.int .i64 (rd l a0_1)) := hcell; have hb4 : Below w1.heap.size w1 w3 := (below_drew (Below.refl _ w1)).trans hb3; have q0 := P0.out _ hb4; have q1 := P1.out _ hb4; have HB4 := A_ hb4; clear hcell hr3 hb3 hb4))
   all_goals
    go_wp2
    go_ret
    exact ⟨by first | rfl | (rw [← HRR.out]; rfl), HBB.out.trans ((B1.out.trans (HB4.out.mono B1.out.size)).mono HBB.out.size)⟩
  ·rw [if_neg hb] at h; cases h
 ·rw [if_neg hc] at h
  have h := Option.some.inj h
  subst h
  cases q with
  | false =>
   clear hc
   go_enter Tryz.func9, Tryz.ntmps9
   go_wp2_with (first | (go_at_call 44; rw [← CW.out]; (with_reducible refine (spec_IsTable.calls _ _ _ _ HQ.out).mono ?_); rintro e w1 ⟨rfl, hb⟩; have B1 := A_ hb; clear hb; have p0 := blk_cell (blk_below C0.out B1.out) 0; have p1 := blk_cell (blk_below C0.out B1.out) 1))
   go_ret
   exact ⟨rfl, HBB.out.trans (B1.out.mono HBB.out.size)⟩
  | true =>
   have hc2 : 3 < a0_0 := Int.not_le.mp (fun h => hc ⟨rfl, h⟩)
   have hg2 : decide (3 < a0_0) = true := decide_eq_true hc2
   have hg3 : decide (a0_0 > 3) = true := decide_eq_true hc2
   clear hc
   go_enter Tryz.func9, Tryz.ntmps9
   go_wp2_with (first | (go_at_call 44; rw [← CW.out]; (with_reducible refine (spec_IsTable.calls _ _ _ _ HQ.out).mono ?_); rintro e w1 ⟨rfl, hb⟩; have B1 := A_ hb; clear hb; have p0 := blk_cell (blk_below C0.out B1.out) 0; have p1 := blk_cell (blk_below C0.out B1.out) 1))
   go_ret
   exact ⟨rfl, HBB.out.trans (B1.out.mono HBB.out.size)⟩
end Go.Proofs.YtfoopehlmnejaaaGreatDoor.Print
namespace Go.Proofs.YtfoopehlmnejaaaGreatDoor.Print
open Go.RowKit Go.Proofs.YtfoopehlmnejaaaGreatDoorW.PrintWords Go.Proofs.YtfoopehlmnejaaaGreatDoorW.PrintLast Go.Proofs.YtfoopehlmnejaaaGreatDoorW.PrintMore
attribute [local go_sem] max2_int min2_int max_two min_two max_three min_three max_four min_four   -- for this text's walks alone
set_option linter.unusedVariables false
set_option linter.unusedSimpArgs false
def impl_isLetter.f (a0 : Int) : Option (Bool) := if a0 ≥ 97 then (some (decide (a0 < 102))) else (some false)
set_option maxHeartbeats 8000000 in
set_option maxRecDepth 100000 in
theorem impl_isLetter.calls (a0 : Int) (r : Bool) (w : World) (h : impl_isLetter.f a0 = some r) :
  Calls Tryz.prog 78 #[.int .u8 a0] w fun e w' => e = .returned (.bool r) ∧ Drawn0 w w' := by
 have H : (if a0 ≥ 97 then (some (decide (a0 < 102))) else (some false)) = some r := h
 clear h
 by_cases c2 : a0 ≥ 97
 ·rw [if_pos c2] at H
  have c2b0 : decide (97 ≤ a0) = true := decide_eq_true c2
  clear c2
  obtain rfl := Option.some.inj H
  go_enter Tryz.func78, Tryz.ntmps78
  go_wp2
  go_ret
  exact ⟨q1_, q5_⟩
 ·rw [if_neg c2] at H
  have c2b0 : decide (97 ≤ a0) = false := decide_eq_false c2
  clear c2
  obtain rfl := Option.some.inj H
  go_enter Tryz.func78, Tryz.ntmps78
  go_wp2
  go_ret
  exact ⟨q1_, q5_⟩
end Go.Proofs.YtfoopehlmnejaaaGreatDoor.Print
namespace Go.Proofs.YtfoopehlmnejaaaGreatDoor.Print
open Go.RowKit Go.Proofs.YtfoopehlmnejaaaGreatDoorW.PrintWords Go.Proofs.YtfoopehlmnejaaaGreatDoorW.PrintLast Go.Proofs.YtfoopehlmnejaaaGreatDoorW.PrintMore
attribute [local go_sem] max2_int min2_int max_two min_two max_three min_three max_four min_four   -- for this text's walks alone
set_option linter.unusedVariables false
set_option linter.unusedSimpArgs false
open Go.Proofs.YtfoopehlmnejaaaGreatDoor.M
def impl_readPart.Lies (base : Nat) (w : World) : Sh → Value → Prop
 | .nil, v => v = .pointer none
 | .node c l r, v => ∃ b vl vr, base ≤ b ∧ v = .pointer (some ⟨b, 0, none⟩) ∧ w.cell? ⟨b, 0, none⟩ = some (.int .u8 c) ∧ w.cell? ⟨b, 1, none⟩ = some vl ∧ w.cell? ⟨b, 2, none⟩ = some vr ∧ impl_readPart.Lies base w l vl ∧ impl_readPart.Lies base w r vr
theorem impl_readPart.Lies.below {base : Nat} {w w' : World} (hb : Below w.heap.size w w') : ∀ {T : Sh} {v : Value}, impl_readPart.Lies base w T v → impl_readPart.Lies base w' T v
 | .nil, v, h => h
 | .node c l r, v, h => by
  obtain ⟨b, vl, vr, h0, h1, h2, h3, h4, h5, h6⟩ := h
  have hlt : b < w.heap.size := World.block_lt_of_cell? w ⟨b, 0, none⟩ h2
  exact ⟨b, vl, vr, h0, h1, (hb.cell (p := ⟨b, 0, none⟩) hlt).trans h2, (hb.cell (p := ⟨b, 1, none⟩) hlt).trans h3, (hb.cell (p := ⟨b, 2, none⟩) hlt).trans h4, impl_readPart.Lies.below hb h5, impl_readPart.Lies.below hb h6⟩
theorem impl_readPart.Lies.mono {base base' : Nat} {w : World} (hb : base' ≤ base) : ∀ {T : Sh} {v : Value}, impl_readPart.Lies base w T v → impl_readPart.Lies base' w T v
 | .nil, v, h => h
 | .node c l r, v, h => by
  obtain ⟨b, vl, vr, h0, h1, h2, h3, h4, h5, h6⟩ := h
  exact ⟨b, vl, vr, by omega, h1, h2, h3, h4, impl_readPart.Lies.mono hb h5, impl_readPart.Lies.mono hb h6⟩
theorem impl_readPart.Lies.far {base g : Nat} {w : World} (hg : g < base) (j : Nat) (x : Value) : ∀ {T : Sh} {v : Value}, impl_readPart.Lies base w T v → impl_readPart.Lies base (w.setCell ⟨g, j, none⟩ x) T v
 | .nil, v, h => h
 | .node c l r, v, h => by
  obtain ⟨b, vl, vr, h0, h1, h2, h3, h4, h5, h6⟩ := h
  have hne : ∀ k, (w.setCell ⟨g, j, none⟩ x).cell? ⟨b, k, none⟩ = w.cell? ⟨b, k, none⟩ := fun k => by
   have := Below.heap_setCell w ⟨g, j, none⟩ x b (by show b ≠ g; omega)
   simp only [World.cell?, this]
  exact ⟨b, vl, vr, h0, h1, (hne 0).trans h2, (hne 1).trans h3, (hne 2).trans h4, impl_readPart.Lies.far hg j x h5, impl_readPart.Lies.far hg j x h6⟩
theorem impl_readPart.Lies.fine {base : Nat} {w : World} {T : Sh} {v : Value} (hT : Fine T) (h : impl_readPart.Lies base w T v) : ∃ b, v = .pointer (some ⟨b, 0, none⟩) := by
 cases hT with
 | leaf c => obtain ⟨b, _, _, _, h1, _⟩ := h; exact ⟨b, h1⟩
 | one c l _ => obtain ⟨b, _, _, _, h1, _⟩ := h; exact ⟨b, h1⟩
 | two c l r _ _ => obtain ⟨b, _, _, _, h1, _⟩ := h; exact ⟨b, h1⟩
def impl_readPart.Out (S : ByteArray) (w : World) (p : Option (Sh × Nat)) (e : Ending) (w' : World) : Prop :=
 (match p with
 | none => e = .returned (.tuple #[.pointer none, .string ⟨#[]⟩])
 | some (T, j) => ∃ v, e = .returned (.tuple #[v, .string (S.extract j S.size)]) ∧ impl_readPart.Lies w.heap.size w' T v) ∧ Below w.heap.size w w'
set_option maxHeartbeats 4000000 in
theorem impl_readPart.call (S : ByteArray) (hS : S.size ≤ 1000000) : ∀ k i w, S.size ≤ i + k → i ≤ S.size → Calls Tryz.prog 76 #[.string (S.extract i S.size)] w (impl_readPart.Out S w (rp S k i)) := by
 intro k
 induction k with
 | zero =>
  intro i w hk hi
  have hz : S.extract i S.size = ⟨#[]⟩ := by
   apply ByteArray.ext; apply Array.eq_empty_of_size_eq_zero
   show (S.extract i S.size).size = 0
   simp [ByteArray.size_extract]; omega
  rw [hz, rp]
  clear hk hi hS hz
  go_enter Tryz.func76, Tryz.ntmps76
  go_wp2_with (fail)
  go_ret2
  exact ⟨rfl, Below.refl _ _⟩
 | succ k ih =>
  intro i w hk hi
  by_cases h0 : S.size ≤ i
  ·have hz : S.extract i S.size = ⟨#[]⟩ := by
    apply ByteArray.ext; apply Array.eq_empty_of_size_eq_zero
    show (S.extract i S.size).size = 0
    simp [ByteArray.size_extract]; omega
   rw [hz, rp, if_pos h0]
   clear hk hi hS hz h0
   go_enter Tryz.func76, Tryz.ntmps76
   go_wp2_with (fail)
   go_ret2
   exact ⟨rfl, Below.refl _ _⟩
  ·have hlt : i < S.size := by omega
   have hb := bt_extract hlt
   have hx := extract_extract (S := S) 1 (show i + 1 ≤ S.size by omega)
   have hsz : (S.extract i S.size).size = S.size - i := by simp [ByteArray.size_extract]
   rw [rp, if_neg h0]
   obtain ⟨s, hs⟩ : ∃ s, s = S.extract i S.size := ⟨_, rfl⟩
   obtain ⟨t, ht⟩ : ∃ t, t = S.extract (i + 1) S.size := ⟨_, rfl⟩
   obtain ⟨c, hc⟩ : ∃ c, c = bt S i := ⟨_, rfl⟩
   have IH := A_ (fun w => ih (i + 1) w (by omega) (by omega))
   have IH2 := A_ (fun j w (h1 : i < j) (h2 : j ≤ S.size) => ih j w (by clear hsz; omega) h2)
   rw [← ht] at IH hx
   rw [← hs] at hb hsz hx ⊢
   rw [← hc] at hb ⊢
   have hp : 0 < s.size := by omega
   rw [← hsz] at hx
   have hne : s.toList.isEmpty = false := by
    rw [List.isEmpty_eq_false_iff]
    intro e
    have h := congrArg List.length e
    rw [toList_len] at h
    simp only [List.length_nil] at h; omega
   have hbt : ((s[0]'hp).toNat : Int) = c := by
    have h := bt_at s 0 (by simpa using hp)
    rw [hb] at h; simpa using h
   have HT := A_ ht
   have HR : ∀ nd, Aside0 (((w.alloc (.cells #[.int .u8 c, .pointer none, .pointer none] 86)).drewN nd).heap[w.heap.size]? = some (.cells #[.int .u8 c, .pointer none, .pointer none] 86 (0, 0))) := fun nd => ⟨by simpa using blk_new w (.cells #[.int .u8 c, .pointer none, .pointer none] 86)⟩
   have HB : ∀ nd, Aside0 (Below w.heap.size w ((w.alloc (.cells #[.int .u8 c, .pointer none, .pointer none] 86)).drewN nd)) := fun nd => ⟨pw_below_drewN ((Below.refl _ _).alloc (Nat.le_refl _) _) nd⟩
   have HZ : ∀ nd, Aside0 (((w.alloc (.cells #[.int .u8 c, .pointer none, .pointer none] 86)).drewN nd).heap.size = w.heap.size + 1) := fun nd => ⟨by simp⟩
   clear ih hk hi h0 hlt hsz hs ht hc hb
   by_cases h1 : isLet c
   ·rw [if_pos h1]
    have fin : ∀ nd, impl_readPart.Out S w (some (.node c .nil .nil, i + 1)) (.returned (.tuple #[.pointer (some ⟨w.heap.size, 0, none⟩), .string t])) ((w.alloc (.cells #[.int .u8 c, .pointer none, .pointer none] 86)).drewN nd) := fun nd => by
     rw [HT.out]
     exact ⟨⟨_, rfl, ⟨w.heap.size, .pointer none, .pointer none, Nat.le_refl _, rfl, blk_cell (HR nd).out 0, blk_cell (HR nd).out 1, blk_cell (HR nd).out 2, rfl, rfl⟩⟩, (HB nd).out⟩
    have FIN := A_ fin; clear fin
    by_cases h2 : 97 ≤ c ∧ c < 102
    ·have A1 : Aside0 (impl_isLetter.f c = some true) := ⟨by unfold impl_isLetter.f; rw [if_pos (by omega), decide_eq_true (by omega)]⟩
     clear h1 h2
     go_enter Tryz.func76, Tryz.ntmps76
     go_wp2_with (first | (go_at_call 78; (with_reducible refine (impl_isLetter.calls c true _ A1.out).mono ?_); rintro e w' ⟨rfl, ⟨nd, rfl⟩⟩))
     go_ret2
     exact FIN.out _
    ·have A1 : Aside0 (impl_isLetter.f c = some false) := ⟨by
      unfold impl_isLetter.f
      by_cases h3 : c ≥ 97
      ·rw [if_pos h3, decide_eq_false (by omega)]
      ·rw [if_neg h3]⟩
     obtain rfl | rfl : c = 48 ∨ c = 49 := by rcases h1 with h | h; exact absurd h h2; exact h
     all_goals
      clear h1 h2
      go_enter Tryz.func76, Tryz.ntmps76
      go_wp2_with (first | (go_at_call 78; (with_reducible refine (impl_isLetter.calls _ false _ A1.out).mono ?_); rintro e w' ⟨rfl, ⟨nd, rfl⟩⟩))
      go_ret2
      exact FIN.out _
   ·rw [if_neg h1]
    have n1 : (c == 48) = false := beq_eq_false_iff_ne.mpr (fun e => h1 (.inr (.inl e)))
    have n2 : (c == 49) = false := beq_eq_false_iff_ne.mpr (fun e => h1 (.inr (.inr e)))
    have A1 : Aside0 (impl_isLetter.f c = some false) := ⟨by
     unfold impl_isLetter.f
     by_cases h3 : c ≥ 97
     ·rw [if_pos h3, decide_eq_false (fun h4 => h1 (.inl ⟨by omega, h4⟩))]
     ·rw [if_neg h3]⟩
    have h48 := h1; clear h1
    have C1n : rp S k (i + 1) = none → Aside0 (∀ W, Calls Tryz.prog 76 #[.string t] W fun e W' => e = .returned (.tuple #[.pointer none, .string ⟨#[]⟩]) ∧ Below W.heap.size W W') := fun hq => ⟨fun W => by have h := IH.out W; rw [hq] at h; exact h⟩
    have C1s : ∀ T j, rp S k (i + 1) = some (T, j) → Aside0 (∀ W, Calls Tryz.prog 76 #[.string t] W fun e W' => ∃ b, e = .returned (.tuple #[.pointer (some ⟨b, 0, none⟩), .string (S.extract j S.size)]) ∧ impl_readPart.Lies W.heap.size W' T (.pointer (some ⟨b, 0, none⟩)) ∧ Below W.heap.size W W') := fun T j hq => ⟨fun W => (IH.out W).mono (by
     rw [hq]; rintro e W' ⟨⟨v, he, hl⟩, hb⟩
     obtain ⟨b, rfl⟩ := hl.fine (rp_some hq).1
     exact ⟨b, he, hl, hb⟩)⟩
    have C2n : ∀ j, i < j → j ≤ S.size → rp S k j = none → Aside0 (∀ W, Calls Tryz.prog 76 #[.string (S.extract j S.size)] W fun e W' => e = .returned (.tuple #[.pointer none, .string ⟨#[]⟩]) ∧ Below W.heap.size W W') := fun j h1 h2 hq => ⟨fun W => by have h := IH2.out j W h1 h2; rw [hq] at h; exact h⟩
    have C2s : ∀ j, i < j → j ≤ S.size → ∀ T m, rp S k j = some (T, m) → Aside0 (∀ W, Calls Tryz.prog 76 #[.string (S.extract j S.size)] W fun e W' => ∃ b, e = .returned (.tuple #[.pointer (some ⟨b, 0, none⟩), .string (S.extract m S.size)]) ∧ impl_readPart.Lies W.heap.size W' T (.pointer (some ⟨b, 0, none⟩)) ∧ Below W.heap.size W W') := fun j h1 h2 T m hq => ⟨fun W => (IH2.out j W h1 h2).mono (by
     rw [hq]; rintro e W' ⟨⟨v, he, hl⟩, hb⟩
     obtain ⟨b, rfl⟩ := hl.fine (rp_some hq).1
     exact ⟨b, he, hl, hb⟩)⟩
    clear IH IH2
    by_cases h2 : c = 33
    ·rw [if_pos h2]
     subst h2
     cases hq : rp S k (i + 1) with
     | none =>
      have C1 := C1n hq
      rw [Option.bind_none]
      clear C1n C1s C2n C2s hq h48
      go_enter Tryz.func76, Tryz.ntmps76
      go_wp2_with (first | (go_at_call 78; (with_reducible refine (impl_isLetter.calls _ false _ A1.out).mono ?_); rintro e w' ⟨rfl, ⟨nd, rfl⟩⟩) | (go_at_call 76; (with_reducible refine (C1.out _).mono ?_); rintro e w1 ⟨rfl, hb1⟩; have RB := A_ (blk_below (HR nd).out hb1); have BB := A_ ((HB nd).out.trans (hb1.mono (HB nd).out.size)); clear hb1; have r0 : w1.cell? ⟨w.heap.size, 0, none⟩ = some (.int .u8 33) := blk_cell RB.out 0; have r1 : w1.cell? ⟨w.heap.size, 1, none⟩ = some (.pointer none) := blk_cell RB.out 1; have r2 : w1.cell? ⟨w.heap.size, 2, none⟩ = some (.pointer none) := blk_cell RB.out 2; have z1 := blk_frozen RB.out 1; have z2 := blk_frozen RB.out 2))
      go_ret2
      exact ⟨rfl, BB.out.setCell (p := ⟨w.heap.size, 1, none⟩) (Nat.le_refl _) _⟩
     | some p =>
      obtain ⟨T, j⟩ := p
      have C1 := C1s T j hq
      rw [Option.bind_some]
      obtain ⟨t2, ht2⟩ : ∃ t2, t2 = S.extract j S.size := ⟨_, rfl⟩
      rw [← ht2] at C1
      have HT2 := A_ ht2; clear ht2; clear C1n C1s C2n C2s hq h48
      go_enter Tryz.func76, Tryz.ntmps76
      go_wp2_with (first | (go_at_call 78; (with_reducible refine (impl_isLetter.calls _ false _ A1.out).mono ?_); rintro e w' ⟨rfl, ⟨nd, rfl⟩⟩) | (go_at_call 76; (with_reducible refine (C1.out _).mono ?_); rintro e w1 ⟨b1, rfl, hl1, hb1⟩; have L1 : Aside0 (impl_readPart.Lies (w.heap.size + 1) w1 T (.pointer (some ⟨b1, 0, none⟩))) := ⟨by rw [(HZ nd).out] at hl1; exact hl1⟩; have RB := A_ (blk_below (HR nd).out hb1); have BB := A_ ((HB nd).out.trans (hb1.mono (HB nd).out.size)); clear hb1 hl1; have r0 : w1.cell? ⟨w.heap.size, 0, none⟩ = some (.int .u8 33) := blk_cell RB.out 0; have r1 : w1.cell? ⟨w.heap.size, 1, none⟩ = some (.pointer none) := blk_cell RB.out 1; have r2 : w1.cell? ⟨w.heap.size, 2, none⟩ = some (.pointer none) := blk_cell RB.out 2; have z1 := blk_frozen RB.out 1; have z2 := blk_frozen RB.out 2))
      go_ret2
      have RC : (w1.setCell ⟨w.heap.size, 1, none⟩ (.pointer (some ⟨b1, 0, none⟩))).heap[w.heap.size]? = some (.cells #[.int .u8 33, .pointer (some ⟨b1, 0, none⟩), .pointer none] 86 (0, 0)) := by simpa using blk_set RB.out 1 (.pointer (some ⟨b1, 0, none⟩))
      refine ⟨⟨.pointer (some ⟨w.heap.size, 0, none⟩), (by rw [← HT2.out]; try rfl), ⟨w.heap.size, _, _, Nat.le_refl _, rfl, blk_cell RC 0, blk_cell RC 1, blk_cell RC 2, ?_, rfl⟩⟩, BB.out.setCell (p := ⟨w.heap.size, 1, none⟩) (Nat.le_refl _) _⟩
      exact (L1.out.far (g := w.heap.size) (by omega) 1 _).mono (by omega)
    ·rw [if_neg h2]
     have n3 : (c == 33) = false := beq_eq_false_iff_ne.mpr h2
     by_cases h3 : c = 38 ∨ c = 124 ∨ c = 94
     ·rw [if_pos h3]
      have two : ∀ r, (∀ p, rp S k (i + 1) = some p → r = (rp S k p.2).bind fun q => some (Sh.node c p.1 q.1, q.2)) → (rp S k (i + 1) = none → r = none) → Calls Tryz.prog 76 #[.string s] w (impl_readPart.Out S w r) := by
       intro r hr1 hr2
       cases hq : rp S k (i + 1) with
       | none =>
        have C1 := C1n hq
        rw [hr2 hq]
        clear C1n C1s C2n C2s hq h48 hr1 hr2 h2
        rcases h3 with rfl | rfl | rfl
        all_goals
         clear n1 n2 n3
         go_enter Tryz.func76, Tryz.ntmps76
         go_wp2_with (first | (go_at_call 78; (with_reducible refine (impl_isLetter.calls _ false _ A1.out).mono ?_); rintro e w' ⟨rfl, ⟨nd, rfl⟩⟩) | (go_at_call 76; (with_reducible refine (C1.out _).mono ?_); rintro e w1 ⟨rfl, hb1⟩; have RB := A_ (blk_below (HR nd).out hb1); have BB := A_ ((HB nd).out.trans (hb1.mono (HB nd).out.size)); clear hb1; have r0 : w1.cell? ⟨w.heap.size, 0, none⟩ = some (.int .u8 _) := blk_cell RB.out 0; have r1 : w1.cell? ⟨w.heap.size, 1, none⟩ = some (.pointer none) := blk_cell RB.out 1; have r2 : w1.cell? ⟨w.heap.size, 2, none⟩ = some (.pointer none) := blk_cell RB.out 2; have z1 := blk_frozen RB.out 1; have z2 := blk_frozen RB.out 2))
         go_ret2
         exact ⟨rfl, BB.out.setCell (p := ⟨w.heap.size, 1, none⟩) (Nat.le_refl _) _⟩
       | some p =>
        obtain ⟨T, j⟩ := p
        obtain ⟨f1, f2, f3, f4⟩ := rp_some hq
        have C1 := C1s T j hq
        rw [hr1 _ hq]
        simp only []
        cases hq2 : rp S k j with
        | none =>
         have C2 := C2n j (by omega) f3 hq2
         rw [Option.bind_none]
         obtain ⟨t2, ht2⟩ : ∃ t2, t2 = S.extract j S.size := ⟨_, rfl⟩
         rw [← ht2] at C1 C2
         clear C1n C1s C2n C2s hq hq2 h48 hr1 hr2 h2 f1 f2 f3 f4 ht2
         rcases h3 with rfl | rfl | rfl
         all_goals
          clear n1 n2 n3
          go_enter Tryz.func76, Tryz.ntmps76
          go_wp2_with (first | (go_at_call 78; (with_reducible refine (impl_isLetter.calls _ false _ A1.out).mono ?_); rintro e w' ⟨rfl, ⟨nd, rfl⟩⟩) | (go_at_call 76; (with_reducible refine (C1.out _).mono ?_); rintro e w1 ⟨b1, rfl, hl1, hb1⟩; have L1 : Aside0 (impl_readPart.Lies (w.heap.size + 1) w1 T (.pointer (some ⟨b1, 0, none⟩))) := ⟨by rw [(HZ nd).out] at hl1; exact hl1⟩; have RB := A_ (blk_below (HR nd).out hb1); have BB := A_ ((HB nd).out.trans (hb1.mono (HB nd).out.size)); clear hb1 hl1; have r0 : w1.cell? ⟨w.heap.size, 0, none⟩ = some (.int .u8 _) := blk_cell RB.out 0; have r1 : w1.cell? ⟨w.heap.size, 1, none⟩ = some (.pointer none) := blk_cell RB.out 1; have r2 : w1.cell? ⟨w.heap.size, 2, none⟩ = some (.pointer none) := blk_cell RB.out 2; have z1 := blk_frozen RB.out 1; have z2 := blk_frozen RB.out 2) | (go_at_call 76; (with_reducible refine (C2.out _).mono ?_); rintro e w2 ⟨rfl, hb2⟩; have RC : Aside0 ((w1.setCell ⟨w.heap.size, 1, none⟩ (.pointer (some ⟨b1, 0, none⟩))).heap[w.heap.size]? = some (.cells #[.int .u8 _, .pointer (some ⟨b1, 0, none⟩), .pointer none] 86 (0, 0))) := ⟨by simpa using blk_set RB.out 1 (.pointer (some ⟨b1, 0, none⟩))⟩; have BC := A_ (BB.out.setCell (p := ⟨w.heap.size, 1, none⟩) (Nat.le_refl _) (.pointer (some ⟨b1, 0, none⟩))); have RD := A_ (blk_below RC.out hb2); have BD := A_ (BC.out.trans (hb2.mono BC.out.size)); have L2 := A_ (((L1.out.far (g := w.heap.size) (by omega) 1 (.pointer (some ⟨b1, 0, none⟩)))).below hb2); clear hb2; have s0 : w2.cell? ⟨w.heap.size, 0, none⟩ = some (.int .u8 _) := blk_cell RD.out 0; have s1 : w2.cell? ⟨w.heap.size, 1, none⟩ = some (.pointer (some ⟨b1, 0, none⟩)) := blk_cell RD.out 1; have s2 : w2.cell? ⟨w.heap.size, 2, none⟩ = some (.pointer none) := blk_cell RD.out 2; have y1 := blk_frozen RD.out 1; have y2 := blk_frozen RD.out 2; clear r0 r1 r2 z1 z2))
          go_ret2
          exact ⟨rfl, BD.out.setCell (p := ⟨w.heap.size, 2, none⟩) (Nat.le_refl _) _⟩
        | some q =>
         obtain ⟨T2, m⟩ := q
         have C2 := C2s j (by omega) f3 T2 m hq2
         rw [Option.bind_some]
         obtain ⟨t2, ht2⟩ : ∃ t2, t2 = S.extract j S.size := ⟨_, rfl⟩
         rw [← ht2] at C1 C2
         obtain ⟨t3, ht3⟩ : ∃ t3, t3 = S.extract m S.size := ⟨_, rfl⟩
         rw [← ht3] at C2
         have HT3 := A_ ht3; clear C1n C1s C2n C2s hq hq2 h48 hr1 hr2 h2 f1 f2 f3 f4 ht2 ht3
         rcases h3 with rfl | rfl | rfl
         all_goals
          clear n1 n2 n3
          go_enter Tryz.func76, Tryz.ntmps76
          go_wp2_with (first | (go_at_call 78; (with_reducible refine (impl_isLetter.calls _ false _ A1.out).mono ?_); rintro e w' ⟨rfl, ⟨nd, rfl⟩⟩) | (go_at_call 76; (with_reducible refine (C1.out _).mono ?_); rintro e w1 ⟨b1, rfl, hl1, hb1⟩; have L1 : Aside0 (impl_readPart.Lies (w.heap.size + 1) w1 T (.pointer (some ⟨b1, 0, none⟩))) := ⟨by rw [(HZ nd).out] at hl1; exact hl1⟩; have RB := A_ (blk_below (HR nd).out hb1); have BB := A_ ((HB nd).out.trans (hb1.mono (HB nd).out.size)); clear hb1 hl1; have r0 : w1.cell? ⟨w.heap.size, 0, none⟩ = some (.int .u8 _) := blk_cell RB.out 0; have r1 : w1.cell? ⟨w.heap.size, 1, none⟩ = some (.pointer none) := blk_cell RB.out 1; have r2 : w1.cell? ⟨w.heap.size, 2, none⟩ = some (.pointer none) := blk_cell RB.out 2; have z1 := blk_frozen RB.out 1; have z2 := blk_frozen RB.out 2) | (go_at_call 76; (with_reducible refine (C2.out _).mono ?_); rintro e w2 ⟨b2, rfl, hl2, hb2⟩; have RC : Aside0 ((w1.setCell ⟨w.heap.size, 1, none⟩ (.pointer (some ⟨b1, 0, none⟩))).heap[w.heap.size]? = some (.cells #[.int .u8 _, .pointer (some ⟨b1, 0, none⟩), .pointer none] 86 (0, 0))) := ⟨by simpa using blk_set RB.out 1 (.pointer (some ⟨b1, 0, none⟩))⟩; have BC := A_ (BB.out.setCell (p := ⟨w.heap.size, 1, none⟩) (Nat.le_refl _) (.pointer (some ⟨b1, 0, none⟩))); have RD := A_ (blk_below RC.out hb2); have BD := A_ (BC.out.trans (hb2.mono BC.out.size)); have L2 := A_ (((L1.out.far (g := w.heap.size) (by omega) 1 (.pointer (some ⟨b1, 0, none⟩)))).below hb2); have L3 : Aside0 (impl_readPart.Lies (w.heap.size + 1) w2 T2 (.pointer (some ⟨b2, 0, none⟩))) := ⟨hl2.mono (by have h := blk_lt RC.out; omega)⟩; clear hb2 hl2; have s0 : w2.cell? ⟨w.heap.size, 0, none⟩ = some (.int .u8 _) := blk_cell RD.out 0; have s1 : w2.cell? ⟨w.heap.size, 1, none⟩ = some (.pointer (some ⟨b1, 0, none⟩)) := blk_cell RD.out 1; have s2 : w2.cell? ⟨w.heap.size, 2, none⟩ = some (.pointer none) := blk_cell RD.out 2; have y1 := blk_frozen RD.out 1; have y2 := blk_frozen RD.out 2; clear r0 r1 r2 z1 z2))
          go_ret2
          have RE := blk_set RD.out 2 (.pointer (some ⟨b2, 0, none⟩))
          refine ⟨⟨.pointer (some ⟨w.heap.size, 0, none⟩), (by rw [← HT3.out]; try rfl), ⟨w.heap.size, .pointer (some ⟨b1, 0, none⟩), .pointer (some ⟨b2, 0, none⟩), Nat.le_refl _, rfl, by simpa using blk_cell RE 0, by simpa using blk_cell RE 1, by simpa using blk_cell RE 2, ?_, ?_⟩⟩, BD.out.setCell (p := ⟨w.heap.size, 2, none⟩) (Nat.le_refl _) _⟩
          ·exact (L2.out.far (g := w.heap.size) (by omega) 2 _).mono (by omega)
          ·exact (L3.out.far (g := w.heap.size) (by omega) 2 _).mono (by omega)
      cases hq : rp S k (i + 1) with
      | none => exact two _ (fun p hp => by rw [hq] at hp; cases hp) (fun _ => rfl)
      | some p => exact two _ (fun p' hp => by rw [hq] at hp; cases hp; rfl) (fun h => by rw [hq] at h; cases h)
     ·rw [if_neg h3]
      have n4 : (c == 38) = false := beq_eq_false_iff_ne.mpr (fun e => h3 (.inl e))
      have n5 : (c == 124) = false := beq_eq_false_iff_ne.mpr (fun e => h3 (.inr (.inl e)))
      have n6 : (c == 94) = false := beq_eq_false_iff_ne.mpr (fun e => h3 (.inr (.inr e)))
      clear C1n C1s C2n C2s h48 h2 h3
      go_enter Tryz.func76, Tryz.ntmps76
      go_wp2_with (first | (go_at_call 78; (with_reducible refine (impl_isLetter.calls _ false _ A1.out).mono ?_); rintro e w' ⟨rfl, ⟨nd, rfl⟩⟩))
      go_ret2
      exact ⟨rfl, (HB _).out⟩
end Go.Proofs.YtfoopehlmnejaaaGreatDoor.Print
namespace Go.Proofs.YtfoopehlmnejaaaGreatDoor.Print
open Go.RowKit Go.Proofs.YtfoopehlmnejaaaGreatDoorW.PrintWords Go.Proofs.YtfoopehlmnejaaaGreatDoorW.PrintLast Go.Proofs.YtfoopehlmnejaaaGreatDoorW.PrintMore
attribute [local go_sem] max2_int min2_int max_two min_two max_three min_three max_four min_four   -- for this text's walks alone
set_option linter.unusedVariables false
set_option linter.unusedSimpArgs false
open Go.Proofs.YtfoopehlmnejaaaGreatDoor.M
set_option maxHeartbeats 1600000 in
theorem impl_readFormula.call (S : ByteArray) (w : World) : Calls Tryz.prog 47 #[.string S] w fun e w' =>
  (match formOf S with
  | some T => ∃ b, e = .returned (.tuple #[.pointer (some ⟨b, 0, none⟩), .bool true]) ∧ impl_readPart.Lies w.heap.size w' T (.pointer (some ⟨b, 0, none⟩))
  | none => ∃ v, e = .returned (.tuple #[v, .bool false])) ∧ Below w.heap.size w w' := by
 by_cases h60 : S.size ≤ 60
 ·have d60 : decide ((S.size : Int) > 60) = false := decide_eq_false (by omega)
  have d61 : decide (60 < (S.size : Int)) = false := decide_eq_false (by omega)
  have hz : S.extract 0 S.size = S := by simp
  have HC := A_ (fun W => impl_readPart.call S (by omega) S.size 0 W (by omega) (by omega))
  rw [hz] at HC
  unfold formOf
  rw [if_pos h60]
  cases hq : rp S S.size 0 with
  | none =>
   have C1 : Aside0 (∀ W, Calls Tryz.prog 76 #[.string S] W fun e W' => e = .returned (.tuple #[.pointer none, .string ⟨#[]⟩]) ∧ Below W.heap.size W W') := ⟨fun W => by have h := HC.out W; rw [hq] at h; exact h⟩
   rw [Option.bind_none]
   clear HC hq h60 hz
   go_enter Tryz.func47, Tryz.ntmps47
   go_wp2_with (first | (go_at_call 76; (with_reducible refine (C1.out _).mono ?_); rintro e w1 ⟨rfl, hb1⟩))
   go_ret2
   exact ⟨⟨_, rfl⟩, hb1⟩
  | some p =>
   obtain ⟨T, j⟩ := p
   obtain ⟨f1, f2, f3, f4⟩ := rp_some hq
   obtain ⟨t, ht⟩ : ∃ t, t = S.extract j S.size := ⟨_, rfl⟩
   have C1 : Aside0 (∀ W, Calls Tryz.prog 76 #[.string S] W fun e W' => ∃ b, e = .returned (.tuple #[.pointer (some ⟨b, 0, none⟩), .string t]) ∧ impl_readPart.Lies W.heap.size W' T (.pointer (some ⟨b, 0, none⟩)) ∧ Below W.heap.size W W') := ⟨fun W => (HC.out W).mono (by
     rw [hq]; rintro e W' ⟨⟨v, he, hl⟩, hb⟩
     obtain ⟨b, rfl⟩ := hl.fine f1
     rw [← ht] at he
     exact ⟨b, he, hl, hb⟩)⟩
   rw [Option.bind_some]
   simp only []
   have hl : t.toList.length = S.size - j := by rw [toList_len, ht]; simp [ByteArray.size_extract]
   by_cases hj : j = S.size
   ·rw [if_pos hj]
    have hne : t.toList.isEmpty = true := by
     rw [List.isEmpty_iff]
     exact List.eq_nil_of_length_eq_zero (by omega)
    clear HC hq h60 hz ht hl hj f1 f2 f3 f4
    go_enter Tryz.func47, Tryz.ntmps47
    go_wp2_with (first | (go_at_call 76; (with_reducible refine (C1.out _).mono ?_); rintro e w1 ⟨b1, rfl, hl1, hb1⟩; have L1 := A_ hl1; clear hl1))
    go_ret2
    exact ⟨⟨b1, rfl, L1.out⟩, hb1⟩
   ·rw [if_neg hj]
    have hne : t.toList.isEmpty = false := by
     rw [List.isEmpty_eq_false_iff]
     intro e
     rw [e] at hl
     simp at hl; omega
    clear HC hq h60 hz ht hl hj f1 f2 f3 f4
    go_enter Tryz.func47, Tryz.ntmps47
    go_wp2_with (first | (go_at_call 76; (with_reducible refine (C1.out _).mono ?_); rintro e w1 ⟨b1, rfl, hl1, hb1⟩; have L1 := A_ hl1; clear hl1))
    go_ret2
    exact ⟨⟨_, rfl⟩, hb1⟩
 ·have d60 : decide ((S.size : Int) > 60) = true := decide_eq_true (by omega)
  have d61 : decide (60 < (S.size : Int)) = true := decide_eq_true (by omega)
  unfold formOf
  rw [if_neg h60]
  clear h60
  go_enter Tryz.func47, Tryz.ntmps47
  go_wp2_with (fail)
  go_ret2
  exact ⟨⟨_, rfl⟩, Below.refl _ _⟩
end Go.Proofs.YtfoopehlmnejaaaGreatDoor.Print
namespace Go.Proofs.YtfoopehlmnejaaaGreatDoor.Print
open Go.RowKit Go.Proofs.YtfoopehlmnejaaaGreatDoorW.PrintWords Go.Proofs.YtfoopehlmnejaaaGreatDoorW.PrintLast Go.Proofs.YtfoopehlmnejaaaGreatDoorW.PrintMore
attribute [local go_sem] max2_int min2_int max_two min_two max_three min_three max_four min_four   -- for this text's walks alone
set_option linter.unusedVariables false
set_option linter.unusedSimpArgs false
theorem impl_part_isLeaf.yes (b : Nat) (w : World) (h : w.cell? ⟨b, 1, none⟩ = some (.pointer none)) : Calls Tryz.prog 77 #[.pointer (some ⟨b, 0, none⟩)] w fun e w' => e = .returned (.bool true) ∧ Drawn0 w w' := by
 go_enter Tryz.func77, Tryz.ntmps77
 go_wp2_with (fail)
 go_ret
 exact ⟨rfl, Drawn0.refl _⟩
theorem impl_part_isLeaf.no (b b1 : Nat) (w : World) (h : w.cell? ⟨b, 1, none⟩ = some (.pointer (some ⟨b1, 0, none⟩))) : Calls Tryz.prog 77 #[.pointer (some ⟨b, 0, none⟩)] w fun e w' => e = .returned (.bool false) ∧ Drawn0 w w' := by
 go_enter Tryz.func77, Tryz.ntmps77
 go_wp2_with (fail)
 go_ret
 exact ⟨rfl, Drawn0.refl _⟩
end Go.Proofs.YtfoopehlmnejaaaGreatDoor.Print
