/- Functions of the given program as plain Lean functions, with proofs that their calls compute them, or lemmas on these. Laid by a program of this repo for the seat Ytbcjfmimgamjeaa; Lean checks it. -/
import Derived.Test.YtbcjfmimgamjeaaKExactAverageDegree0
import Derived.Test.YtbcjfmimgamjeaaKExactAverageDegree4
import Derived.Test.YtbcjfmimgamjeaaKExactAverageDegree11
import Derived.Test.YtbcjfmimgamjeaaKExactAverageDegree12
import Derived.Test.YtbcjfmimgamjeaaM12
import Derived.Shelf.GgClosure.Gives
import Derived.BigQuiet
namespace Go.Proofs.Ytbcjfmimgamjeaa.Print
open Go.RowKit Go.Proofs.YtbcjfmimgamjeaaW.PrintWords Go.Proofs.YtbcjfmimgamjeaaW.PrintLast Go.Proofs.YtbcjfmimgamjeaaW.PrintMore
attribute [local go_sem] max2_int min2_int max_two min_two max_three min_three max_four min_four   -- for this text's walks alone
set_option linter.unusedVariables false
set_option linter.unusedSimpArgs false

--OWNPART
/-! ### impl_RealDegree: function 48 -/
--IMPORT M12
--IMPORT Derived.Shelf.GgClosure.Gives
--IMPORT Derived.BigQuiet
open Go.Proofs.Ytbcjfmimgamjeaa.M
def impl_RealDegree.f (k : Nat) (a0_0 : Int) (a0_1 : Int) : Option (Int) :=
  (impl_IsTable.f a0_0 a0_1).bind fun q => if q = true then ((impl_Table_coefficients.f k a0_0 a0_1).bind fun c => if 0 ≤ a0_0 ∧ a0_0 ≤ 5 ∧ c.length = 2 ^ a0_0.toNat then some (impl_degree.most (fun m => c.getD m 0 != 0) (2 ^ a0_0.toNat)) else none) else some (-2)
theorem impl_RealDegree.mono : ∀ a0_0 a0_1 k, LeO (impl_RealDegree.f k a0_0 a0_1) (impl_RealDegree.f (k + 1) a0_0 a0_1) := by
  intro a b k
  unfold impl_RealDegree.f
  exact LeO.bind (LeO.refl _) (fun _ => LeO.ite (LeO.bind (impl_Table_coefficients.mono _ _ _) (fun _ => LeO.refl _)) (LeO.refl _))
theorem impl_RealDegree.clo (B : Nat) (A : Option Addr) (cap : Nat) (l : List Int) (x : Nat) (hx : x < l.length) (w : World) (hB : w.cell? ⟨B, 0, none⟩ = some (.slice A l.length cap)) (hr : Kd.C (Kd.int .i64) w A l.length l) :
    Calls Try.prog 72 #[.int .i64 (x : Int), .pointer (some ⟨B, 0, none⟩)] w fun e w' => e = .returned (.bool (l.getD x 0 != 0)) ∧ Below w.heap.size w w' := by
  obtain ⟨ad, ea, c0⟩ := Kd.at_int hr (x : Int) (by omega) (by omega)
  subst ea
  rw [rd_nat] at c0
  have hxi : (x : Int) < (l.length : Int) := by omega
  have c1 : w.cell? (ad.add x) = some (.int .i64 (l.getD x 0)) := c0
  generalize l.getD x 0 = y at *
  clear hr hx
  go_enter Try.func72, Try.ntmps72
  go_wp2_with (fail)
  go_ret
  exact ⟨rfl, by repeat (first | exact Below.refl _ _ | apply pw_below_drewN)⟩
set_option maxHeartbeats 4000000 in
set_option maxRecDepth 100000 in
theorem impl_RealDegree.good (k n : Nat) (b : Int) (c : List Int) (hn : n ≤ 5) (hq : impl_IsTable.f (n : Int) b = some true) (hcf : impl_Table_coefficients.f k (n : Int) b = some c) (hlen : c.length = 2 ^ n) (w : World) :
    Calls Try.prog 48 #[.agg #[.int .i64 (n : Int), .int .i64 b]] w fun e w' => e = .returned (.int .i64 (impl_degree.most (fun m => c.getD m 0 != 0) (2 ^ n))) ∧ Below w.heap.size w w' := by
  have huT := Try.underlying27
  obtain ⟨W0, hW0⟩ : ∃ W0, W0 = w.alloc (.cells #[.int .i64 (n : Int), .int .i64 b] 27) := ⟨_, rfl⟩
  have HB : Below w.heap.size w W0 := by rw [hW0]; exact (Below.refl _ _).alloc (Nat.le_refl _) _
  have c0 : W0.heap[w.heap.size]? = some (.cells #[.int .i64 (n : Int), .int .i64 b] 27 (0, 0)) := by rw [hW0]; exact blk_new w _
  have CT : Aside0 (∀ W, Calls Try.prog 69 #[.agg #[.int .i64 (n : Int), .int .i64 b]] W fun e w' => e = .returned (.bool true) ∧ Below W.heap.size W w') := ⟨fun W => impl_IsTable.calls (n : Int) b true W hq⟩
  have CC : Aside0 (∀ W, Calls Try.prog 70 #[.agg #[.int .i64 (n : Int), .int .i64 b]] W fun e w' => ∃ v0_ : Value, e = .returned v0_ ∧ Kd.R (Kd.int .i64) 3 w' W.heap.size (fun _ => True) v0_ c ∧ Below W.heap.size W w') := ⟨fun W => impl_Table_coefficients.calls k (n : Int) b c W hcf⟩
  have CD : Aside0 (∀ B A cap W, B < W.heap.size → W.cell? ⟨B, 0, none⟩ = some (.slice A c.length cap) → Kd.C (Kd.int .i64) W A c.length c → Calls Try.prog 71 #[.int .i64 (n : Int), .func (.func 72) #[] #[.pointer (some ⟨B, 0, none⟩)]] W fun e w' => e = .returned (.int .i64 (impl_degree.most (fun m => c.getD m 0 != 0) (2 ^ n))) ∧ Below W.heap.size W w') := ⟨fun B A cap W hB hc hr =>
    impl_degree.call n (2 ^ n) hn rfl 72 #[.pointer (some ⟨B, 0, none⟩)] (enters_of Try.func72 (by kernel_rfl) rfl) (fun m => c.getD m 0 != 0) W (fun x W' hx hb => impl_RealDegree.clo B A cap c x (by omega) W' ((hb.cell (p := ⟨B, 0, none⟩) hB).trans hc) (Kd.C_below hr hb))⟩
  have HBB := Aside0.mk HB
  have CW := Aside0.mk hW0
  have C0 := Aside0.mk c0
  clear HB hW0 c0 hq hcf hlen hn
  generalize impl_degree.most (fun m => c.getD m 0 != 0) (2 ^ n) = R at *
  go_enter Try.func48, Try.ntmps48
  go_wp2_with (first | (go_at_call 69; rw [← CW.out]; (with_reducible refine (CT.out _).mono ?_); rintro e w1 ⟨rfl, hb⟩; have B1 := Aside0.mk hb; clear hb; have p0 := blk_cell (blk_below C0.out B1.out) 0; have p1 := blk_cell (blk_below C0.out B1.out) 1) | (go_at_call 70; (with_reducible refine (CC.out _).mono ?_); rintro e w2 ⟨v2, rfl, hr, hb⟩; have B2 := Aside0.mk (B1.out.trans (hb.mono B1.out.size)); have HR := Aside0.mk hr; clear hb hr; obtain ⟨Ao, co, rfl⟩ := Kd.R_slice HR.out; have q0 := blk_cell (blk_alloc (blk_below C0.out B2.out) (.cells #[.slice Ao c.length co] 34 (0, 0))) 0) | (go_at_call 71; (with_reducible refine (CD.out w2.heap.size Ao co _ (by (try rw [World.alloc_eq]); simp) ((blk_cell (blk_new w2 (.cells #[.slice Ao c.length co] 34 (0, 0))) 0).trans rfl) (Kd.C_below (Kd.R_reads' HR.out).2.2 ((Below.refl _ _).alloc (Nat.le_refl _) _))).mono ?_); rintro e w3 ⟨rfl, hb⟩; have B3 := Aside0.mk hb; clear hb))
  go_ret
  have B4 := B2.out.alloc B2.out.size (.cells #[.slice Ao c.length co] 34 (0, 0))
  have B5 := B4.trans (B3.out.mono B4.size)
  exact ⟨rfl, HBB.out.trans (B5.mono HBB.out.size)⟩
theorem impl_RealDegree.bad (a b : Int) (hq : impl_IsTable.f a b = some false) (w : World) :
    Calls Try.prog 48 #[.agg #[.int .i64 a, .int .i64 b]] w fun e w' => e = .returned (.int .i64 (-2)) ∧ Below w.heap.size w w' := by
  have huT := Try.underlying27
  have CT : Aside0 (∀ W, Calls Try.prog 69 #[.agg #[.int .i64 a, .int .i64 b]] W fun e w' => e = .returned (.bool false) ∧ Below W.heap.size W w') := ⟨fun W => impl_IsTable.calls a b false W hq⟩
  have HB : Aside0 (Below w.heap.size w (w.alloc (.cells #[.int .i64 a, .int .i64 b] 27))) := ⟨(Below.refl _ _).alloc (Nat.le_refl _) _⟩
  clear hq
  go_enter Try.func48, Try.ntmps48
  go_wp2_with (first | (go_at_call 69; (with_reducible refine (CT.out _).mono ?_); rintro e w1 ⟨rfl, hb⟩))
  go_ret
  exact ⟨rfl, HB.out.trans (hb.mono HB.out.size)⟩
theorem impl_RealDegree.calls (k : Nat) (a0_0 : Int) (a0_1 : Int) (r : Int) (w : World) (h : impl_RealDegree.f k a0_0 a0_1 = some r) :
    Calls Try.prog 48 #[.agg #[.int .i64 a0_0, .int .i64 a0_1]] w fun e w' => e = .returned (.int .i64 r) ∧ Below w.heap.size w w' := by
  unfold impl_RealDegree.f at h
  obtain ⟨q, hq, h⟩ := Option.bind_eq_some_iff.mp h
  cases q with
  | false =>
    rw [if_neg (by decide)] at h
    rw [← Option.some.inj h]
    exact impl_RealDegree.bad a0_0 a0_1 hq w
  | true =>
    rw [if_pos rfl] at h
    obtain ⟨c, hc, h⟩ := Option.bind_eq_some_iff.mp h
    by_cases hd : 0 ≤ a0_0 ∧ a0_0 ≤ 5 ∧ c.length = 2 ^ a0_0.toNat
    · rw [if_pos hd] at h
      obtain ⟨d1, d2, d3⟩ := hd
      obtain ⟨n, rfl⟩ := nat_of d1
      rw [Int.toNat_natCast] at d3 h
      rw [← Option.some.inj h]
      exact impl_RealDegree.good k n a0_1 c (by omega) hq hc d3 w
    · rw [if_neg hd] at h; cases h


end Go.Proofs.Ytbcjfmimgamjeaa.Print
