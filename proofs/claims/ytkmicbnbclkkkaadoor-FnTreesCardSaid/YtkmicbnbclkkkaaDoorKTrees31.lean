/- Several texts of this repo's programs in one: plain lemmas, or functions of the given program as plain Lean functions with proofs that their calls compute them. -/
import Derived.Test.YtkmicbnbclkkkaaDoorKTrees2
import Derived.Test.YtkmicbnbclkkkaaDoorKTrees16
import Derived.Test.YtkmicbnbclkkkaaDoorM14
import Derived.Shelf.GgClosure.Gives
import Derived.BigQuiet
import Derived.Deep.RegionHeld3
import Derived.DeepKeys5
import Derived.Carry
namespace Go.Proofs.YtkmicbnbclkkkaaDoor.Print
open Go.RowKit Go.Proofs.YtkmicbnbclkkkaaDoorW.PrintWords Go.Proofs.YtkmicbnbclkkkaaDoorW.PrintLast Go.Proofs.YtkmicbnbclkkkaaDoorW.PrintMore
attribute [local go_sem] max2_int min2_int max_two min_two max_three min_three max_four min_four   -- for this text's walks alone
set_option linter.unusedVariables false
set_option linter.unusedSimpArgs false
set_option maxRecDepth 100000
/-! ### impl_asker_all: function 34 -/
open Go.Proofs.YtkmicbnbclkkkaaDoor.M
theorem impl_asker_all.ones_ev {w : Nat} (h : w < 2 ^ 32) : impl_ones.f w = some ((pc w : Nat) : Int) := by
 have e : bits_OnesCount64.f w = some ((pc w : Nat) : Int) := by
  unfold bits_OnesCount64.f
  rw [sA_eq h, sB_eq (sA_lt h), sC_eq (sB_lt (sA_lt h))]
  exact congrArg some (swar_end h rfl _ rfl)
 unfold impl_ones.f
 rw [u64n (by omega), e]; rfl
/-- what the map holds of a subcube: the least sum of questions there -/
def impl_asker_all.Good (n v : Nat) (x y : Value) : Prop := ∃ m u : Nat, m < 16 ∧ u < 16 ∧ x = .agg #[.int .i64 (m : Int), .int .i64 (u : Int)] ∧ y = .int .i64 ((avI n v (n - pc m) m u : Nat) : Int)
theorem impl_asker_all.keys_all (n v : Nat) (x y : Value) (h : impl_asker_all.Good n v x y) : x ∈ impl_asker_left.keys := by
 obtain ⟨m, u, hm, hu, rfl, _⟩ := h
 exact List.mem_flatMap.mpr ⟨m, List.mem_range.mpr hm, List.mem_map.mpr ⟨u, List.mem_range.mpr hu, rfl⟩⟩
theorem impl_asker_all.Good.at {n v m u : Nat} {y : Value} (h : impl_asker_all.Good n v (.agg #[.int .i64 (m : Int), .int .i64 (u : Int)]) y) : y = .int .i64 ((avI n v (n - pc m) m u : Nat) : Int) := by
 obtain ⟨m', u', _, _, e, rfl⟩ := h
 injection e with e
 have e1 := congrArg (fun a => a[0]?) e
 have e2 := congrArg (fun a => a[1]?) e
 simp at e1 e2
 obtain rfl : m = m' := by omega
 obtain rfl : u = u' := by omega
 rfl
/-- the asker lies in block T, what it remembers in block M -/
def impl_asker_all.St (n v T M : Nat) (mv : Value) (W : World) : Prop := W.heap[T]? = some (.cells #[.int .i64 (n : Int), .int .i64 (v : Int), mv, .map (some M)] 72 (0, 0)) ∧ Memo Tryd.prog 46 3 (impl_asker_all.Good n v) W M
theorem impl_asker_all.St.below {n v T M : Nat} {mv : Value} {W W' : World} (h : impl_asker_all.St n v T M mv W) (hb : Below W.heap.size W W') : impl_asker_all.St n v T M mv W' := ⟨blk_below h.1 hb, h.2.below hb⟩
theorem impl_asker_all.St.ne {n v T M : Nat} {mv : Value} {W : World} (h : impl_asker_all.St n v T M mv W) : T ≠ M := by
 rintro rfl; obtain ⟨h1, es, clock, h2, _⟩ := h
 rw [h1] at h2; injection h2 with h2; cases h2
/-- within a call: what is asked of lies in block B -/
def impl_asker_all.rS (w : World) (n v T M : Nat) (mv : Value) (B m u : Nat) (W : World) : Prop := W.heap[B]? = some (.cells #[.int .i64 (m : Int), .int .i64 (u : Int)] 46 (0, 0)) ∧ impl_asker_all.St n v T M mv W ∧ But M w W
theorem impl_asker_all.rS.ne {w : World} {n v T M B m u : Nat} {mv : Value} {W : World} (h : impl_asker_all.rS w n v T M mv B m u W) : B ≠ M := by
 rintro rfl
 obtain ⟨h1, ⟨_, es, clock, h2, _⟩, _⟩ := h
 rw [h1] at h2; injection h2 with h2; cases h2
theorem impl_asker_all.rS.below {w : World} {n v T M B m u : Nat} {mv : Value} {W W' : World} (h : impl_asker_all.rS w n v T M mv B m u W) (hb : Below W.heap.size W W') : impl_asker_all.rS w n v T M mv B m u W' :=
 ⟨blk_below h.1 hb, h.2.1.below hb, h.2.2.trans (.of_below hb)⟩
theorem impl_asker_all.rS.but {w : World} {n v T M B m u : Nat} {mv : Value} {W W' : World} (h : impl_asker_all.rS w n v T M mv B m u W) (hs : impl_asker_all.St n v T M mv W') (hb : But M W W') : impl_asker_all.rS w n v T M mv B m u W' :=
 ⟨hb.blk h.ne h.1, hs, h.2.2.trans hb⟩
theorem impl_asker_all.rS.all {w : World} {n v T M B m u : Nat} {mv : Value} {W : World} (h : impl_asker_all.rS w n v T M mv B m u W) : W.cell? ⟨B, 0, none⟩ = some (.int .i64 (m : Int)) ∧ W.cell? ⟨B, 1, none⟩ = some (.int .i64 (u : Int)) ∧ W.cell? ⟨T, 0, none⟩ = some (.int .i64 (n : Int)) ∧ W.cell? ⟨T, 1, none⟩ = some (.int .i64 (v : Int)) ∧ W.cell? ⟨T, 3, none⟩ = some (.map (some M)) ∧ impl_asker_all.rS w n v T M mv B m u W :=
 ⟨blk_cell h.1 0, blk_cell h.1 1, blk_cell h.2.1.1 0, blk_cell h.2.1.1 1, blk_cell h.2.1.1 3, h⟩
theorem impl_asker_all.rS.st {w : World} {n v T M B m u : Nat} {mv : Value} {W W' : World} (h : W.cell? ⟨B, 0, none⟩ = some (.int .i64 (m : Int)) ∧ W.cell? ⟨B, 1, none⟩ = some (.int .i64 (u : Int)) ∧ W.cell? ⟨T, 0, none⟩ = some (.int .i64 (n : Int)) ∧ W.cell? ⟨T, 1, none⟩ = some (.int .i64 (v : Int)) ∧ W.cell? ⟨T, 3, none⟩ = some (.map (some M)) ∧ impl_asker_all.rS w n v T M mv B m u W) (hb : Below W.heap.size W W') : W'.cell? ⟨B, 0, none⟩ = some (.int .i64 (m : Int)) ∧ W'.cell? ⟨B, 1, none⟩ = some (.int .i64 (u : Int)) ∧ W'.cell? ⟨T, 0, none⟩ = some (.int .i64 (n : Int)) ∧ W'.cell? ⟨T, 1, none⟩ = some (.int .i64 (v : Int)) ∧ W'.cell? ⟨T, 3, none⟩ = some (.map (some M)) ∧ impl_asker_all.rS w n v T M mv B m u W' :=
 (h.2.2.2.2.2.below hb).all
theorem impl_asker_all.rS.sb {w : World} {n v T M B m u : Nat} {mv : Value} {W W' : World} (h : W.cell? ⟨B, 0, none⟩ = some (.int .i64 (m : Int)) ∧ W.cell? ⟨B, 1, none⟩ = some (.int .i64 (u : Int)) ∧ W.cell? ⟨T, 0, none⟩ = some (.int .i64 (n : Int)) ∧ W.cell? ⟨T, 1, none⟩ = some (.int .i64 (v : Int)) ∧ W.cell? ⟨T, 3, none⟩ = some (.map (some M)) ∧ impl_asker_all.rS w n v T M mv B m u W) (hb : impl_asker_all.St n v T M mv W' ∧ But M W W') : W'.cell? ⟨B, 0, none⟩ = some (.int .i64 (m : Int)) ∧ W'.cell? ⟨B, 1, none⟩ = some (.int .i64 (u : Int)) ∧ W'.cell? ⟨T, 0, none⟩ = some (.int .i64 (n : Int)) ∧ W'.cell? ⟨T, 1, none⟩ = some (.int .i64 (v : Int)) ∧ W'.cell? ⟨T, 3, none⟩ = some (.map (some M)) ∧ impl_asker_all.rS w n v T M mv B m u W' :=
 (h.2.2.2.2.2.but hb.1 hb.2).all
/-- the call's start: what is asked of lies in a block of its own -/
theorem impl_asker_all.start {n v T M m u : Nat} {mv : Value} {w : World} (h : impl_asker_all.St n v T M mv w) : impl_asker_all.rS w n v T M mv w.heap.size m u (w.alloc (.cells #[.int .i64 (m : Int), .int .i64 (u : Int)] 46)) := by
 have hb0 : Below w.heap.size w (w.alloc (.cells #[.int .i64 (m : Int), .int .i64 (u : Int)] 46)) := (Below.refl _ _).alloc (Nat.le_refl _) _
 exact ⟨blk_new w _, h.below hb0, .of_below hb0⟩
set_option maxHeartbeats 4000000 in
theorem impl_asker_all.hit (n v T M m u R : Nat) (mv : Value) (w : World) (hst : impl_asker_all.St n v T M mv w)
  (hl : ∀ W, W.heap[M]? = (w.alloc (.cells #[.int .i64 (m : Int), .int .i64 (u : Int)] 46)).heap[M]? → (Instr.lookup 70 (.map (some M)) (.agg #[.int .i64 (m : Int), .int .i64 (u : Int)]) true).run Tryd.prog W = .ok (.tuple #[.int .i64 (R : Int), .bool true]) W) :
  Calls Tryd.prog 34 #[.pointer (some ⟨T, 0, none⟩), .agg #[.int .i64 (m : Int), .int .i64 (u : Int)]] w fun e w' => e = .returned (.int .i64 (R : Int)) ∧ impl_asker_all.St n v T M mv w' ∧ But M w w' := by
 have huT := Tryd.underlying25
 have huA := Tryd.underlying72
 have huK := Tryd.underlying46
 have HS := Aside0.mk (impl_asker_all.start (m := m) (u := u) hst)
 obtain ⟨c0, c1, a0, a1, a2, _⟩ := HS.out.all
 have HL : ∀ nd, (Instr.lookup 70 (.map (some M)) (.agg #[.int .i64 (m : Int), .int .i64 (u : Int)]) true).run Tryd.prog ((w.alloc (.cells #[.int .i64 (m : Int), .int .i64 (u : Int)] 46)).drewN nd) = .ok (.tuple #[.int .i64 (R : Int), .bool true]) ((w.alloc (.cells #[.int .i64 (m : Int), .int .i64 (u : Int)] 46)).drewN nd) := fun nd => hl _ (by simp)
 clear hl hst
 go_enter Tryd.func34, Tryd.ntmps34
 go_wp2_with (fail)
 go_quiet (fail)
 go_wp2
 go_ret
 exact ⟨rfl, (HS.out.below (pw_below_drewN (Below.refl _ _) _)).2⟩
set_option maxHeartbeats 4000000 in
theorem impl_asker_all.same (n v T M m u : Nat) (mv : Value) (w : World) (hc : Cb n m u) (hv : v < 2 ^ 2 ^ n) (hst : impl_asker_all.St n v T M mv w) (hcon : conL v (inX n m u) = true) (h0 : avI n v (n - pc m) m u = 0)
  (hl : ∀ W, W.heap[M]? = (w.alloc (.cells #[.int .i64 (m : Int), .int .i64 (u : Int)] 46)).heap[M]? → (Instr.lookup 70 (.map (some M)) (.agg #[.int .i64 (m : Int), .int .i64 (u : Int)]) true).run Tryd.prog W = .ok (.tuple #[.int .i64 0, .bool false]) W) :
  Calls Tryd.prog 34 #[.pointer (some ⟨T, 0, none⟩), .agg #[.int .i64 (m : Int), .int .i64 (u : Int)]] w fun e w' => e = .returned (.int .i64 0) ∧ impl_asker_all.St n v T M mv w' ∧ But M w w' := by
 have huT := Tryd.underlying25
 have huA := Tryd.underlying72
 have huK := Tryd.underlying46
 have HS := Aside0.mk (impl_asker_all.start (m := m) (u := u) hst)
 obtain ⟨c0, c1, a0, a1, a2, _⟩ := HS.out.all
 have HL : ∀ nd, (Instr.lookup 70 (.map (some M)) (.agg #[.int .i64 (m : Int), .int .i64 (u : Int)]) true).run Tryd.prog ((w.alloc (.cells #[.int .i64 (m : Int), .int .i64 (u : Int)] 46)).drewN nd) = .ok (.tuple #[.int .i64 0, .bool false]) ((w.alloc (.cells #[.int .i64 (m : Int), .int .i64 (u : Int)] 46)).drewN nd) := fun nd => hl _ (by simp)
 have h16 := pow16 hc.hn
 have hmm := hc.hm
 have huu := hc.hu
 have HC := Aside0.mk (fun W => impl_Table_cube.call n v m u (2 ^ n) (by have := hc.hn; omega) rfl hv (by omega) (by omega) W)
 have hval : impl_Table_cube.val (impl_Table_cube.seen v m u false (2 ^ n)) (impl_Table_cube.seen v m u true (2 ^ n)) ≠ 2 := fun e => by
  have := (impl_Table_cube.con hc.ne).mp e
  rw [hcon] at this; cases this
 generalize impl_Table_cube.val (impl_Table_cube.seen v m u false (2 ^ n)) (impl_Table_cube.seen v m u true (2 ^ n)) = R at *
 have hval2 : (R == 2) = false := beq_eq_false_iff_ne.mpr hval
 have HK := Aside0.mk (impl_asker_left.key m u (by omega) (by omega))
 have HG : Aside0 (impl_asker_all.Good n v (.agg #[.int .i64 (m : Int), .int .i64 (u : Int)]) (.int .i64 0)) := ⟨⟨m, u, by omega, by omega, rfl, by rw [h0]; rfl⟩⟩
 clear hl hst hval hmm huu h16
 go_enter Tryd.func34, Tryd.ntmps34
 go_wp2_with (fail)
 go_quiet (fail)
 go_wp2
 generalize hwr : World.drewN _ _ = wr
 have hS : impl_asker_all.rS w n v T M mv w.heap.size m u wr := by rw [← hwr]; exact HS.out.below (pw_below_drewN (Below.refl _ _) _)
 clear hwr c0 c1 a0 a1 a2 HL
 have h1 := impl_asker_all.rS.st hS.all (Below.refl _ _).drew
 go_region_held3 (fun W => W.cell? ⟨w.heap.size, 0, none⟩ = some (.int .i64 (m : Int)) ∧ W.cell? ⟨w.heap.size, 1, none⟩ = some (.int .i64 (u : Int)) ∧ W.cell? ⟨T, 0, none⟩ = some (.int .i64 (n : Int)) ∧ W.cell? ⟨T, 1, none⟩ = some (.int .i64 (v : Int)) ∧ W.cell? ⟨T, 3, none⟩ = some (.map (some M)) ∧ impl_asker_all.rS w n v T M mv w.heap.size m u W) (first | exact h1 | (refine impl_asker_all.rS.st (by assumption) ?_; first | assumption | exact Below.refl _ _)) (first | (go_at_call 53; (with_reducible refine (HC.out _).mono ?_); rintro e w' ⟨rfl, hb⟩))
 rename_i hh
 have h9 := hh.2.2.2.2.2
 clear h1 hS hh
 go_wp2
 obtain ⟨kl, hkl⟩ := HK.out
 obtain ⟨w2, hrun, hM2, ht2⟩ := h9.2.1.2.drew.store (t := 70) (q := .i64) (a := 0) impl_asker_left.keyed Tryd.underlying70 (impl_asker_all.keys_all n v) impl_asker_left.keys_len Tryd.underlying3 (wf_nat (a := 0) (by decide)) hkl HG.out
 have H2 : Aside0 (impl_asker_all.St n v T M mv w2 ∧ But M w w2) := ⟨⟨(But.of_turned ht2).blk h9.2.1.ne h9.2.1.1, hM2⟩, h9.2.2.trans ((But.of_below (Below.refl _ _).drew).trans (.of_turned ht2))⟩
 have c0 := blk_cell h9.1 0
 have c1 := blk_cell h9.1 1
 have a2 := blk_cell h9.2.1.1 3
 clear hkl hM2 ht2 h9
 go_region
 go_wp2
 go_ret
 exact ⟨rfl, H2.out⟩
theorem impl_asker_all.rS.toSt {w : World} {n v T M m u : Nat} {mv : Value} {W : World} (h : W.cell? ⟨w.heap.size, 0, none⟩ = some (.int .i64 (m : Int)) ∧ W.cell? ⟨w.heap.size, 1, none⟩ = some (.int .i64 (u : Int)) ∧ W.cell? ⟨T, 0, none⟩ = some (.int .i64 (n : Int)) ∧ W.cell? ⟨T, 1, none⟩ = some (.int .i64 (v : Int)) ∧ W.cell? ⟨T, 3, none⟩ = some (.map (some M)) ∧ impl_asker_all.rS w n v T M mv w.heap.size m u W) : impl_asker_all.St n v T M mv W := h.2.2.2.2.2.2.1
set_option maxHeartbeats 8000000 in
theorem impl_asker_all.step (n v T M m u d : Nat) (mv : Value) (w : World) (hc : Cb n m u) (hd : pc m + (d + 1) = n) (hv : v < 2 ^ 2 ^ n) (hst : impl_asker_all.St n v T M mv w) (hcon : ¬ conL v (inX n m u) = true)
  (ih : ∀ m u W, Cb n m u → pc m + d = n → impl_asker_all.St n v T M mv W → Calls Tryd.prog 34 #[.pointer (some ⟨T, 0, none⟩), .agg #[.int .i64 (m : Int), .int .i64 (u : Int)]] W fun e w' => e = .returned (.int .i64 ((avI n v d m u : Nat) : Int)) ∧ impl_asker_all.St n v T M mv w' ∧ But M W w')
  (hl : ∀ W, W.heap[M]? = (w.alloc (.cells #[.int .i64 (m : Int), .int .i64 (u : Int)] 46)).heap[M]? → (Instr.lookup 70 (.map (some M)) (.agg #[.int .i64 (m : Int), .int .i64 (u : Int)]) true).run Tryd.prog W = .ok (.tuple #[.int .i64 0, .bool false]) W) :
  Calls Tryd.prog 34 #[.pointer (some ⟨T, 0, none⟩), .agg #[.int .i64 (m : Int), .int .i64 (u : Int)]] w fun e w' => e = .returned (.int .i64 ((avI n v (d + 1) m u : Nat) : Int)) ∧ impl_asker_all.St n v T M mv w' ∧ But M w w' := by
 have huT := Tryd.underlying25
 have huA := Tryd.underlying72
 have huK := Tryd.underlying46
 have HS := Aside0.mk (impl_asker_all.start (m := m) (u := u) hst)
 obtain ⟨c0, c1, a0, a1, a2, _⟩ := HS.out.all
 have HL : ∀ nd, (Instr.lookup 70 (.map (some M)) (.agg #[.int .i64 (m : Int), .int .i64 (u : Int)]) true).run Tryd.prog ((w.alloc (.cells #[.int .i64 (m : Int), .int .i64 (u : Int)] 46)).drewN nd) = .ok (.tuple #[.int .i64 0, .bool false]) ((w.alloc (.cells #[.int .i64 (m : Int), .int .i64 (u : Int)] 46)).drewN nd) := fun nd => hl _ (by simp)
 have h16 := pow16 hc.hn
 have hmm := hc.hm
 have huu := hc.hu
 have hn4 := hc.hn
 have HC := Aside0.mk (fun W => impl_Table_cube.call n v m u (2 ^ n) (by omega) rfl hv (by omega) (by omega) W)
 have hval : impl_Table_cube.val (impl_Table_cube.seen v m u false (2 ^ n)) (impl_Table_cube.seen v m u true (2 ^ n)) = 2 := (impl_Table_cube.con hc.ne).mpr (by simpa using hcon)
 rw [hval] at HC
 have HK := Aside0.mk (impl_asker_left.key m u (by omega) (by omega))
 have hld : avI n v (d + 1) m u = bestOf (avG n v d m u) (2 ^ (d + 1) * n) (frL n m) := avI_succ hcon
 have hdd : n - pc m = d + 1 := by omega
 have HG : Aside0 (impl_asker_all.Good n v (.agg #[.int .i64 (m : Int), .int .i64 (u : Int)]) (.int .i64 ((avI n v (d + 1) m u : Nat) : Int))) := ⟨⟨m, u, by omega, by omega, rfl, by rw [hdd]⟩⟩
 rw [hld] at HG ⊢
 have HCB := Aside0.mk hc; have HD := Aside0.mk hd; have IH := Aside0.mk ih
 have HBN : Aside0 (∀ i, bestOf (avG n v d m u) (2 ^ (d + 1) * n) (frL i m) ≤ 2 ^ (d + 1) * n) := ⟨fun i => (bestOf_le _ _ _).1⟩
 have HO := Aside0.mk (impl_asker_all.ones_ev (w := m) (by omega))
 have hI16 : 2 ^ (d + 1) ≤ 16 := pow16 (by omega)
 have hI1 : 1 ≤ 2 ^ (d + 1) := Nat.two_pow_pos _
 have hB64 : 2 ^ (d + 1) * n ≤ 16 * 4 := Nat.mul_le_mul hI16 hn4
 have HBE : Aside0 (((2 ^ (d + 1) : Nat) : Int) * (n : Int) = ((2 ^ (d + 1) * n : Nat) : Int)) := ⟨by push_cast; rfl⟩
 have HAG : Aside0 (∀ i, avG n v d m u i = 2 ^ (d + 1) - 1 + avI n v d (m ||| 2 ^ i) u + avI n v d (m ||| 2 ^ i) (u ||| 2 ^ i)) := ⟨fun _ => rfl⟩
 obtain ⟨D, hDd⟩ : ∃ D, D = d + 1 := ⟨_, rfl⟩
 have eX : IntKind.i64.wrap ((2 : Int) ^ D) = ((2 ^ (d + 1) : Nat) : Int) := by
  have := shl_one (n := D) (by omega)
  unfold shl at this
  rw [min_bits (by omega), Int.one_mul] at this
  rw [this, hDd]
 have hD64 : D ≤ 64 := by omega
 have epc : IntKind.i64.wrap ((n : Int) - ((pc m : Nat) : Int)) = (D : Int) := by rw [wi64 _ (by omega) (by omega)]; omega
 have hpcn : pc m ≤ n := by omega
 generalize hP : pc m = P at *
 generalize hI : 2 ^ (d + 1) = I at *
 generalize hB : I * n = B at *
 have hm16 : m < 16 := by omega
 have hu16 : u < 16 := by omega
 clear hl hst hval hmm huu h16 hld hdd hc hd ih hcon hv hB hDd
 go_enter Tryd.func34, Tryd.ntmps34
 go_wp2_with (fail)
 go_quiet (fail)
 go_wp2
 generalize hwr : World.drewN _ _ = wr
 have hS : impl_asker_all.rS w n v T M mv w.heap.size m u wr := by rw [← hwr]; exact HS.out.below (pw_below_drewN (Below.refl _ _) _)
 clear hwr c0 c1 a0 a1 a2 HL
 have h1 := impl_asker_all.rS.st hS.all (Below.refl _ _).drew
 go_region_held3 (fun W => W.cell? ⟨w.heap.size, 0, none⟩ = some (.int .i64 (m : Int)) ∧ W.cell? ⟨w.heap.size, 1, none⟩ = some (.int .i64 (u : Int)) ∧ W.cell? ⟨T, 0, none⟩ = some (.int .i64 (n : Int)) ∧ W.cell? ⟨T, 1, none⟩ = some (.int .i64 (v : Int)) ∧ W.cell? ⟨T, 3, none⟩ = some (.map (some M)) ∧ impl_asker_all.rS w n v T M mv w.heap.size m u W) (first | exact h1 | (refine impl_asker_all.rS.st (by assumption) ?_; first | assumption | exact Below.refl _ _)) (first | (go_at_call 53; (with_reducible refine (HC.out _).mono ?_); rintro e w1 ⟨rfl, hb⟩))
 rename_i hh
 have h9 := Aside0.mk hh.2.2.2.2.2
 obtain ⟨c0, c1, a0, a1, a2, hhr⟩ := hh; clear h1 hS hb c1 a2
 go_wp2
 go_quiet (first | (go_at_call 56; (with_reducible refine (impl_ones.calls _ _ _ HO.out).mono ?_); rintro e w' ⟨rfl, ⟨nd2, rfl⟩⟩; (first | exact ⟨rfl, _, World.drewN_drewN _ _ _⟩ | exact ⟨rfl, _, Eq.trans (World.drewN_drewN _ _ _) (congrArg (World.drewN _) (Nat.add_assoc _ _ _))⟩)))
 go_wp2
 have eB : wrap64 ((I : Int) * (n : Int)) = (B : Int) := by rw [HBE.out, w64 (by omega) (by omega)]
 rw [eB]
 have h8 := Aside0.mk (h9.out.below (pw_below_drewN (Below.refl _ _) nq))
 clear eB c0 a1 h9 hhr eX epc hD64 hpcn
 go_loopg [53, 7] n (fun gg v53 v7 wr => ∃ i : Nat, i ≤ n ∧ n - i ≤ gg ∧ v53 = .int .i64 (i : Int) ∧ v7 = .int .i64 ((bestOf (avG n v d m u) B (frL i m) : Nat) : Int) ∧ Aside0 (impl_asker_all.rS w n v T M mv w.heap.size m u wr))
 case atStart => exact ⟨0, Nat.zero_le _, by omega, rfl, rfl, h8⟩
 case round =>
  clear h8 a0; obtain ⟨i, hi, hg, rfl, rfl, hS⟩ := hrel
  by_cases hlt : i < n
  ·have hltz : (i : Int) < (n : Int) := by omega
   obtain ⟨c0, c1, _⟩ := hS.out.all
   have hmb := bit_nat (a := m) (n := i) (by omega) (by omega)
   have es : ∀ y : Nat, shr .i64 (y : Int) (i : Int) = (y : Int) / 2 ^ i := fun y => by rw [shr_nat (by omega)]; push_cast; rfl
   rw [es] at hmb
   have hi64 : i ≤ 64 := by omega
   clear es
   cases hm : m.testBit i with
   | true =>
    have hf := Aside0.mk (frL_succ_held hm)
    rw [hm] at hmb
    clear hm
    go_wp2
    go_roundg (n - (i + 1))
    case measure => omega
    case rel => exact ⟨i + 1, by omega, by omega, by go_num, by rw [hf.out], hS⟩
   | false =>
    have hf := Aside0.mk (frL_succ_free hm)
    have hmem : i ∈ frL n m := by unfold frL; exact List.mem_filter.mpr ⟨List.mem_range.mpr hlt, by rw [hm]; rfl⟩
    obtain ⟨q0, q1, q2⟩ := HCB.out.step hmem
    have hdd := HD.out
    have hd4 : d ≤ 4 := by omega
    have IH0 := Aside0.mk (fun W => IH.out _ _ W q0 (by omega))
    have IH1 := Aside0.mk (fun W => IH.out _ _ W q1 (by omega))
    have W0 := Aside0.mk (impl_asker_left.with0 (m := m) (u := u) (i := i) hm16 hu16 (by omega))
    have W1 := Aside0.mk (impl_asker_left.with1 (m := m) (u := u) (i := i) hm16 hu16 (by omega))
    have h24 : 2 ^ d * d ≤ 16 * 4 := Nat.mul_le_mul (pow16 hd4) hd4
    have hle0 : avI n v d (m ||| 2 ^ i) u ≤ 2 ^ d * d := avC_le q0 (by omega)
    have hle1 : avI n v d (m ||| 2 ^ i) (u ||| 2 ^ i) ≤ 2 ^ d * d := avC_le q1 (by omega)
    have hb0 := HBN.out i
    have hb1 : bestOf (avG n v d m u) B (frL (i + 1) m) = min (bestOf (avG n v d m u) B (frL i m)) (1 + (I - 1 + avI n v d (m ||| 2 ^ i) u + avI n v d (m ||| 2 ^ i) (u ||| 2 ^ i))) := by rw [hf.out, bestOf_snoc, HAG.out]
    have HB1 := Aside0.mk hb1
    rw [hm] at hmb
    generalize avI n v d (m ||| 2 ^ i) u = R0 at *
    generalize avI n v d (m ||| 2 ^ i) (u ||| 2 ^ i) = R1 at *
    generalize bestOf (avG n v d m u) B (frL i m) = b at *
    generalize m ||| 2 ^ i = m1 at *
    generalize u ||| 2 ^ i = u1 at *
    clear hm hmem q0 q1 q2 hdd hb1 hf
    go_wp2
    have h1 := impl_asker_all.rS.st hS.out.all (Below.refl _ _).drew
    go_region_held3 (fun W => W.cell? ⟨w.heap.size, 0, none⟩ = some (.int .i64 (m : Int)) ∧ W.cell? ⟨w.heap.size, 1, none⟩ = some (.int .i64 (u : Int)) ∧ W.cell? ⟨T, 0, none⟩ = some (.int .i64 (n : Int)) ∧ W.cell? ⟨T, 1, none⟩ = some (.int .i64 (v : Int)) ∧ W.cell? ⟨T, 3, none⟩ = some (.map (some M)) ∧ impl_asker_all.rS w n v T M mv w.heap.size m u W) (first | exact h1 | (refine impl_asker_all.rS.st (by assumption) ?_; first | assumption | exact Below.refl _ _) | (refine impl_asker_all.rS.sb (by assumption) ?_; assumption)) (first | (go_at_call 54; (with_reducible first | refine (impl_known_with.calls _ _ _ _ _ _ _ W0.out).mono ?_ | refine (impl_known_with.calls _ _ _ _ _ _ _ W1.out).mono ?_); rintro e w1 ⟨rfl, hb⟩) | (go_at_call 34; (with_reducible first | refine (IH0.out _ ?s).mono ?_ | refine (IH1.out _ ?s).mono ?_); (case s => exact impl_asker_all.rS.toSt (by assumption)); rintro e w2 ⟨rfl, hb⟩))
    all_goals
     rename_i hh
     have h9 := Aside0.mk hh.2.2.2.2.2
     clear hh h1
     rw [av_min b I R0 R1 (by omega) (by omega) (by omega) (by omega) (by omega), ← HB1.out]
     go_wp2
     go_roundg (n - (i + 1))
     case measure => omega
     case rel => exact ⟨i + 1, by omega, by omega, by go_num, rfl, h9⟩
  ·obtain rfl : i = n := by omega
   have h9 := hS.out
   have hb0 := HBN.out i
   obtain ⟨kl, hkl⟩ := HK.out
   obtain ⟨w2, hrun, hM2, ht2⟩ := h9.2.1.2.drew.store (t := 70) (q := .i64) (a := ((bestOf (avG i v d m u) B (frL i m) : Nat) : Int)) impl_asker_left.keyed Tryd.underlying70 (impl_asker_all.keys_all i v) impl_asker_left.keys_len Tryd.underlying3 (wf_nat (by omega)) hkl HG.out
   have H2 : Aside0 (impl_asker_all.St i v T M mv w2 ∧ But M w w2) := ⟨⟨(But.of_turned ht2).blk h9.2.1.ne h9.2.1.1, hM2⟩, h9.2.2.trans ((But.of_below (Below.refl _ _).drew).trans (.of_turned ht2))⟩
   have c0 := blk_cell h9.1 0
   have c1 := blk_cell h9.1 1
   have a2 := blk_cell h9.2.1.1 3
   clear hkl hM2 ht2 h9
   go_wp2
   go_region
   go_wp2
   go_ret
   exact ⟨rfl, H2.out⟩
set_option maxHeartbeats 400000 in
theorem impl_asker_all.call (n v T M : Nat) (mv : Value) (hn : n ≤ 4) (hv : v < 2 ^ 2 ^ n) : ∀ d m u w, Cb n m u → pc m + d = n → impl_asker_all.St n v T M mv w →
  Calls Tryd.prog 34 #[.pointer (some ⟨T, 0, none⟩), .agg #[.int .i64 (m : Int), .int .i64 (u : Int)]] w fun e w' => e = .returned (.int .i64 ((avI n v d m u : Nat) : Int)) ∧ impl_asker_all.St n v T M mv w' ∧ But M w w' := by
 intro d
 induction d with
 | zero =>
  intro m u w hc hd hst
  have h16 := pow16 hn
  have hm16 : m < 16 := by have := hc.hm; omega
  have hu16 : u < 16 := by have := hc.hu; omega
  obtain ⟨kl, hkl⟩ := impl_asker_left.key m u hm16 hu16
  have e0 : n - pc m = 0 := by omega
  rcases (impl_asker_all.start (m := m) (u := u) hst).2.1.2.look_all (t := 70) impl_asker_left.keyed Tryd.underlying70 impl_asker_left.zero hkl with hl | ⟨y, hy, hl⟩
  ·exact impl_asker_all.same n v T M m u mv w hc hv hst (hc.con (by omega)) (by rw [e0]; rfl) hl
  ·obtain rfl := hy.at
   rw [e0] at hl
   exact impl_asker_all.hit n v T M m u _ mv w hst hl
 | succ d ih =>
  intro m u w hc hd hst
  have h16 := pow16 hn
  have hm16 : m < 16 := by have := hc.hm; omega
  have hu16 : u < 16 := by have := hc.hu; omega
  obtain ⟨kl, hkl⟩ := impl_asker_left.key m u hm16 hu16
  have e0 : n - pc m = d + 1 := by omega
  rcases (impl_asker_all.start (m := m) (u := u) hst).2.1.2.look_all (t := 70) impl_asker_left.keyed Tryd.underlying70 impl_asker_left.zero hkl with hl | ⟨y, hy, hl⟩
  ·by_cases hcon : conL v (inX n m u) = true
   ·have h0 : avI n v (d + 1) m u = 0 := avI_con hcon
    rw [h0]
    exact impl_asker_all.same n v T M m u mv w hc hv hst hcon (by rw [e0]; exact h0) hl
   ·exact impl_asker_all.step n v T M m u d mv w hc hd hv hst hcon ih hl
  ·obtain rfl := hy.at
   rw [e0] at hl
   exact impl_asker_all.hit n v T M m u _ mv w hst hl
end Go.Proofs.YtkmicbnbclkkkaaDoor.Print
namespace Go.Proofs.YtkmicbnbclkkkaaDoor.Print
open Go.RowKit Go.Proofs.YtkmicbnbclkkkaaDoorW.PrintWords Go.Proofs.YtkmicbnbclkkkaaDoorW.PrintLast Go.Proofs.YtkmicbnbclkkkaaDoorW.PrintMore
attribute [local go_sem] max2_int min2_int max_two min_two max_three min_three max_four min_four   -- for this text's walks alone
set_option linter.unusedVariables false
set_option linter.unusedSimpArgs false
set_option maxRecDepth 100000
/-! ### impl_LeastAverage: function 9 -/
open Go.Proofs.YtkmicbnbclkkkaaDoor.M
def impl_LeastAverage.f (a0_0 : Int) (a0_1 : Int) : Option (Int) :=
 (impl_isSmall.f a0_0 a0_1 4).bind fun t => if t = true then (if 0 ≤ a0_0 ∧ a0_0 ≤ 4 ∧ 0 ≤ a0_1 ∧ a0_1 < ((2 ^ 2 ^ a0_0.toNat : Nat) : Int) then some (((avI a0_0.toNat a0_1.toNat a0_0.toNat 0 0 : Nat) : Int)) else none) else some (-1)
theorem impl_LeastAverage.ask (n v : Nat) (w : World) : Calls Tryd.prog 29 #[.agg #[.int .i64 (n : Int), .int .i64 (v : Int)]] w fun e w' => ∃ T M mv, e = .returned (.pointer (some ⟨T, 0, none⟩)) ∧ impl_asker_all.St n v T M mv w' ∧ w.heap.size ≤ M ∧ Below w.heap.size w w' := by
 have huT := Tryd.underlying25
 have huA := Tryd.underlying72
 have hmk : ∀ W, (Instr.makeMap 70 none).run Tryd.prog W = .ok (.map (some W.heap.size)) (W.alloc (.map #[] 0)) := fun W => run_makeMap 70 W
 go_enter Tryd.func29, Tryd.ntmps29
 go_wp2_with (fail)
 go_ret
 obtain ⟨W0, hW0⟩ : ∃ W0, W0 = w.alloc (.cells #[.int .i64 (n : Int), .int .i64 (v : Int)] 25) := ⟨_, rfl⟩
 have hs : W0.heap.size = w.heap.size + 1 := by rw [hW0]; simp
 rw [← hW0, ← hs]
 have hm := Memo.made (W0.alloc (.map #[] 0)) Tryd.prog 46 3 (impl_asker_all.Good n v)
 have hm2 := hm.alloc (.cells #[.int .i64 (n : Int), .int .i64 (v : Int), .map (some W0.heap.size), .map (some (W0.heap.size + 1))] 72)
 have e1 : (W0.alloc (.map #[] 0)).heap.size = W0.heap.size + 1 := by simp
 rw [e1] at hm2
 have hB : Below w.heap.size w ((((W0.alloc (.map #[] 0)).alloc (.map #[] 0)).alloc (.cells #[.int .i64 (n : Int), .int .i64 (v : Int), .map (some W0.heap.size), .map (some (W0.heap.size + 1))] 72))) := by
  have h0 : Below w.heap.size w W0 := by rw [hW0]; exact (Below.refl _ _).alloc (Nat.le_refl _) _
  exact ((h0.alloc (by omega) _).alloc (by simp; omega) _).alloc (by simp; omega) _
 have hT := blk_new ((W0.alloc (.map #[] 0)).alloc (.map #[] 0)) (.cells #[.int .i64 (n : Int), .int .i64 (v : Int), .map (some W0.heap.size), .map (some (W0.heap.size + 1))] 72)
 have e : ((W0.alloc (.map #[] 0)).alloc (.map #[] 0)).heap.size = W0.heap.size + 1 + 1 := by simp
 rw [e] at hT
 exact ⟨W0.heap.size + 1 + 1, W0.heap.size + 1, _, rfl, ⟨hT, hm2⟩, by omega, hB⟩
theorem impl_LeastAverage.good (n v : Nat) (hn : n ≤ 4) (hv : v < 2 ^ 2 ^ n) (hsm : impl_isSmall.f (n : Int) (v : Int) 4 = some true) (w : World) :
  Calls Tryd.prog 9 #[.agg #[.int .i64 (n : Int), .int .i64 (v : Int)]] w fun e w' => e = .returned (.int .i64 ((avI n v n 0 0 : Nat) : Int)) ∧ Below w.heap.size w w' := by
 have huT := Tryd.underlying25
 have huK := Tryd.underlying46
 obtain ⟨W0, hW0⟩ : ∃ W0, W0 = w.alloc (.cells #[.int .i64 (n : Int), .int .i64 (v : Int)] 25) := ⟨_, rfl⟩
 have HB : Aside0 (Below w.heap.size w W0) := ⟨by rw [hW0]; exact (Below.refl _ _).alloc (Nat.le_refl _) _⟩
 have C0 : Aside0 (W0.heap[w.heap.size]? = some (.cells #[.int .i64 (n : Int), .int .i64 (v : Int)] 25 (0, 0))) := ⟨by rw [hW0]; exact blk_new w _⟩
 have CW := Aside0.mk hW0; have HSM := Aside0.mk hsm
 have HA := Aside0.mk (fun W => impl_LeastAverage.ask n v W)
 have HL : Aside0 (∀ T M mv W, impl_asker_all.St n v T M mv W → Calls Tryd.prog 34 #[.pointer (some ⟨T, 0, none⟩), .agg #[.int .i64 0, .int .i64 0]] W fun e w' => e = .returned (.int .i64 ((avI n v n 0 0 : Nat) : Int)) ∧ impl_asker_all.St n v T M mv w' ∧ But M W w') := ⟨fun T M mv W h => impl_asker_all.call n v T M mv hn hv n 0 0 W (Cb.zero hn) (by rw [pc_zero]; omega) h⟩
 clear hsm hW0 hv hn
 go_enter Tryd.func9, Tryd.ntmps9
 go_wp2_with (first | (go_at_call 28; rw [← CW.out]; (with_reducible refine (impl_isSmall.calls _ _ _ _ _ HSM.out).mono ?_); rintro e w1 ⟨rfl, hb⟩; have B1 := Aside0.mk hb; clear hb; have p0 := blk_cell (blk_below C0.out B1.out) 0; have p1 := blk_cell (blk_below C0.out B1.out) 1) | (go_at_call 29; (with_reducible refine (HA.out _).mono ?_); rintro e w2 ⟨T, M, mv, rfl, hst, hM, hb⟩; have B2 := Aside0.mk (B1.out.trans (hb.mono B1.out.size)); have HM := Aside0.mk (Nat.le_trans B1.out.size hM); have HST := Aside0.mk hst; clear hb hst hM) | (go_at_call 34; (with_reducible refine (HL.out _ _ _ _ HST.out).mono ?_); rintro e w3 ⟨rfl, hst, hb⟩; have B3 := Aside0.mk hb; clear hb hst))
 go_ret
 have hm := HM.out
 have h2 := HB.out.size
 refine ⟨rfl, ?_⟩
 have h3 := HB.out.trans (B2.out.mono HB.out.size)
 exact h3.trans (B3.out.below (by omega) h3.size)
theorem impl_LeastAverage.bad (a b : Int) (hsm : impl_isSmall.f a b 4 = some false) (w : World) :
  Calls Tryd.prog 9 #[.agg #[.int .i64 a, .int .i64 b]] w fun e w' => e = .returned (.int .i64 (-1)) ∧ Below w.heap.size w w' := by
 have huT := Tryd.underlying25
 have HB : Aside0 (Below w.heap.size w (w.alloc (.cells #[.int .i64 a, .int .i64 b] 25))) := ⟨(Below.refl _ _).alloc (Nat.le_refl _) _⟩
 have HSM := Aside0.mk hsm; clear hsm
 go_enter Tryd.func9, Tryd.ntmps9
 go_wp2_with (first | (go_at_call 28; (with_reducible refine (impl_isSmall.calls _ _ _ _ _ HSM.out).mono ?_); rintro e w1 ⟨rfl, hb⟩))
 go_ret
 exact ⟨rfl, HB.out.trans (hb.mono HB.out.size)⟩
theorem impl_LeastAverage.calls (a0_0 : Int) (a0_1 : Int) (r : Int) (w : World) (h : impl_LeastAverage.f a0_0 a0_1 = some r) :
  Calls Tryd.prog 9 #[.agg #[.int .i64 a0_0, .int .i64 a0_1]] w fun e w' => e = .returned (.int .i64 r) ∧ Below w.heap.size w w' := by
 unfold impl_LeastAverage.f at h
 obtain ⟨t, ht, h⟩ := Option.bind_eq_some_iff.mp h
 cases t with
 | false =>
  rw [if_neg (by decide)] at h
  rw [← Option.some.inj h]
  exact impl_LeastAverage.bad a0_0 a0_1 ht w
 | true =>
  rw [if_pos rfl] at h
  by_cases hd : 0 ≤ a0_0 ∧ a0_0 ≤ 4 ∧ 0 ≤ a0_1 ∧ a0_1 < ((2 ^ 2 ^ a0_0.toNat : Nat) : Int)
  ·rw [if_pos hd] at h
   obtain ⟨d1, d2, d3, d4⟩ := hd
   obtain ⟨n, rfl⟩ := nat_of d1
   obtain ⟨v, rfl⟩ := nat_of d3
   rw [Int.toNat_natCast, Int.toNat_natCast] at h
   rw [Int.toNat_natCast] at d4
   rw [← Option.some.inj h]
   exact impl_LeastAverage.good n v (by omega) (by exact_mod_cast d4) ht w
  ·rw [if_neg hd] at h; cases h
end Go.Proofs.YtkmicbnbclkkkaaDoor.Print
namespace Go.Proofs.YtkmicbnbclkkkaaDoor.Print
open Go.RowKit Go.Proofs.YtkmicbnbclkkkaaDoorW.PrintWords Go.Proofs.YtkmicbnbclkkkaaDoorW.PrintLast Go.Proofs.YtkmicbnbclkkkaaDoorW.PrintMore
attribute [local go_sem] max2_int min2_int max_two min_two max_three min_three max_four min_four   -- for this text's walks alone
set_option linter.unusedVariables false
set_option linter.unusedSimpArgs false
set_option maxHeartbeats 8000000
set_option maxRecDepth 100000
private theorem sT_ {α : Type _} (l : List α) (i : Nat) (a : α) : l.toArray.setIfInBounds i a = (l.set i a).toArray := List.setIfInBounds_toArray ..
private theorem s0_ {α : Type _} {x y : α} {l : List α} : (x :: l).set 0 y = y :: l := rfl
private theorem s1_ {α : Type _} {x y : α} {l : List α} {n : Nat} : (x :: l).set (n + 1) y = x :: l.set n y := rfl
/-! ### spec_LeastDepth: function 10 -/
def spec_LeastDepth.f (k : Nat) (a0_0 : Int) (a0_1 : Int) : Option (Int) := (spec_IsTable.f a0_0 a0_1).bind fun t233 => (if t233 = true then (if a0_0 > 4 then (some (-1)) else ((spec_l7Least.f k a0_0 a0_1 0 0).bind fun t234 => (some t234))) else (some (-1)))
theorem spec_LeastDepth.calls (k : Nat) (a0_0 : Int) (a0_1 : Int) (r : Int) (w : World) (h : spec_LeastDepth.f k a0_0 a0_1 = some r) :
  Calls Tryd.prog 10 #[.agg #[.int .i64 a0_0, .int .i64 a0_1]] w fun e w' => e = .returned (.int .i64 r) ∧ Below w.heap.size w w' := by
 have hu25 := Tryd.underlying25
 have HB := Aside0.mk (Below.refl w.heap.size w)
 have H : ((spec_IsTable.f a0_0 a0_1).bind fun t233 => (if t233 = true then (if a0_0 > 4 then (some (-1)) else ((spec_l7Least.f k a0_0 a0_1 0 0).bind fun t234 => (some t234))) else (some (-1)))) = some r := h
 clear h; replace H := Option.bind_eq_some_iff.mp H; obtain ⟨t233, A20, H⟩ := H; (try dsimp only at H); have A2 := Aside0.mk A20; clear A20
 by_cases c3 : t233 = true
 ·subst c3
  have H1 : (if a0_0 > 4 then (some (-1)) else ((spec_l7Least.f k a0_0 a0_1 0 0).bind fun t234 => (some t234))) = some r := by rw [if_pos rfl] at H; exact H
  clear H; have H := H1; clear H1
  by_cases c4 : a0_0 > 4
  ·rw [if_pos c4] at H
   have c4b0 : decide (4 < a0_0) = true := decide_eq_true c4
   clear c4
   obtain rfl := Option.some.inj H
   go_enter Tryd.func10, Tryd.ntmps10
   go_wp2_with (first | ((with_reducible refine gate_dst (N := 1) rfl ?_); refine box_event ?hg (N := 1) ?hd (cs := #[.int .i64 a0_0, .int .i64 a0_1]) (t := 25) ?hr ?_; (case hd => rfl); (case hg => rfl); (case hr => first | (go_simp; done) | (go_simp; rfl)); intro gb232 hg w5 hbox hb; have n0_ := Aside0.mk (below_step (by repeat (first | (with_reducible first | exact HB.out | apply below_alloc | apply pw_below_drewN | apply below_drew1) | exact HB.out)) hb); have n1_ := Aside0.mk (hbox); have n2_ := Aside0.mk ((by rw [hg]; exact (below_size (by repeat (first | (with_reducible first | exact HB.out | apply below_alloc | apply pw_below_drewN | apply below_drew1) | exact HB.out))) : w.heap.size ≤ gb232)); have n3_ := Aside0.mk ((by rw [hg]; exact (below_size (by repeat (first | (with_reducible first | exact HB.out | apply below_alloc | apply pw_below_drewN | apply below_drew1) | exact HB.out))) : w.heap.size ≤ gb232)); clear HB; have HB := n0_; have BK232 := n1_; have GW232 := n2_; have GE232 := n3_; clear n0_ n1_ n2_ n3_; clear hb hbox hg; have hcz6_0 : w5.cell? ⟨gb232, 0, none⟩ = some (.int .i64 a0_0) := (blk_cell BK232.out 0).trans rfl; have hcz6_1 : w5.cell? ⟨gb232, 1, none⟩ = some (.int .i64 a0_1) := (blk_cell BK232.out 1).trans rfl; have hfz6_0 := blk_frozen BK232.out 0; have hfz6_1 := blk_frozen BK232.out 1) | ((with_reducible refine gate_callee (f := 31) rfl ?_); refine goesL_ (some 4) rfl rfl Tryd.func31 (by kernel_rfl) rfl #[.agg #[.int .i64 a0_0, .int .i64 a0_1]] rfl (by first | rfl | (simp only [List.map_toArray, List.map_cons, List.map_nil, List.length_drop, List.length_take]; rfl)) ?_; (with_reducible refine (spec_IsTable.calls a0_0 a0_1 true _ A2.out).mono ?_); rintro e w7 ⟨rfl, hb⟩; refine ⟨_, rfl, ?_⟩; have n0_ := Aside0.mk (blk_below (g := gb232) (o := .cells #[.int .i64 a0_0, .int .i64 a0_1] 25 (0, 0)) (by (with_reducible repeat (first | refine blk_drewN ?_ _ | refine blk_drew ?_ | refine blk_alloc ?_ _)); exact BK232.out) hb); have n1_ := Aside0.mk (below_step (by repeat (first | (with_reducible first | exact HB.out | apply below_alloc | apply pw_below_drewN | apply below_drew1 | refine below_set ?_ GE232.out) | exact HB.out)) hb); clear BK232; clear HB; have BK232 := n0_; have HB := n1_; clear n0_ n1_; (try clear hb); (try clear hb2); (try clear hk); (try clear hi); have hcz8_0 : w7.cell? ⟨gb232, 0, none⟩ = some (.int .i64 a0_0) := (blk_cell BK232.out 0).trans rfl; have hcz8_1 : w7.cell? ⟨gb232, 1, none⟩ = some (.int .i64 a0_1) := (blk_cell BK232.out 1).trans rfl; have hfz8_0 := blk_frozen BK232.out 0; have hfz8_1 := blk_frozen BK232.out 1))
   go_ret
   exact ⟨by first | rfl | (simp [errW_none, errW_some] <;> rfl) | (simp [*, errW_none, errW_some] <;> rfl), by repeat (first | (with_reducible first | exact HB.out | apply below_alloc | apply pw_below_drewN | apply below_drew1 | refine below_set ?_ GE232.out) | exact HB.out)⟩
  ·rw [if_neg c4] at H
   have c4b0 : decide (4 < a0_0) = false := decide_eq_false c4
   clear c4; replace H := Option.bind_eq_some_iff.mp H; obtain ⟨t234, A90, H⟩ := H
   replace H : (some t234) = some r := H
   have A9 := Aside0.mk A90; clear A90
   obtain rfl := Option.some.inj H
   go_enter Tryd.func10, Tryd.ntmps10
   go_wp2_with (first | ((with_reducible refine gate_dst (N := 1) rfl ?_); refine box_event ?hg (N := 1) ?hd (cs := #[.int .i64 a0_0, .int .i64 a0_1]) (t := 25) ?hr ?_; (case hd => rfl); (case hg => rfl); (case hr => first | (go_simp; done) | (go_simp; rfl)); intro gb232 hg w10 hbox hb; have n0_ := Aside0.mk (below_step (by repeat (first | (with_reducible first | exact HB.out | apply below_alloc | apply pw_below_drewN | apply below_drew1) | exact HB.out)) hb); have n1_ := Aside0.mk (hbox); have n2_ := Aside0.mk ((by rw [hg]; exact (below_size (by repeat (first | (with_reducible first | exact HB.out | apply below_alloc | apply pw_below_drewN | apply below_drew1) | exact HB.out))) : w.heap.size ≤ gb232)); have n3_ := Aside0.mk ((by rw [hg]; exact (below_size (by repeat (first | (with_reducible first | exact HB.out | apply below_alloc | apply pw_below_drewN | apply below_drew1) | exact HB.out))) : w.heap.size ≤ gb232)); clear HB; have HB := n0_; have BK232 := n1_; have GW232 := n2_; have GE232 := n3_; clear n0_ n1_ n2_ n3_; clear hb hbox hg; have hcz11_0 : w10.cell? ⟨gb232, 0, none⟩ = some (.int .i64 a0_0) := (blk_cell BK232.out 0).trans rfl; have hcz11_1 : w10.cell? ⟨gb232, 1, none⟩ = some (.int .i64 a0_1) := (blk_cell BK232.out 1).trans rfl; have hfz11_0 := blk_frozen BK232.out 0; have hfz11_1 := blk_frozen BK232.out 1) | ((with_reducible refine gate_callee (f := 31) rfl ?_); refine goesL_ (some 4) rfl rfl Tryd.func31 (by kernel_rfl) rfl #[.agg #[.int .i64 a0_0, .int .i64 a0_1]] rfl (by first | rfl | (simp only [List.map_toArray, List.map_cons, List.map_nil, List.length_drop, List.length_take]; rfl)) ?_; (with_reducible refine (spec_IsTable.calls a0_0 a0_1 true _ A2.out).mono ?_); rintro e w12 ⟨rfl, hb⟩; refine ⟨_, rfl, ?_⟩; have n0_ := Aside0.mk (blk_below (g := gb232) (o := .cells #[.int .i64 a0_0, .int .i64 a0_1] 25 (0, 0)) (by (with_reducible repeat (first | refine blk_drewN ?_ _ | refine blk_drew ?_ | refine blk_alloc ?_ _)); exact BK232.out) hb); have n1_ := Aside0.mk (below_step (by repeat (first | (with_reducible first | exact HB.out | apply below_alloc | apply pw_below_drewN | apply below_drew1 | refine below_set ?_ GE232.out) | exact HB.out)) hb); clear BK232; clear HB; have BK232 := n0_; have HB := n1_; clear n0_ n1_; (try clear hb); (try clear hb2); (try clear hk); (try clear hi); have hcz13_0 : w12.cell? ⟨gb232, 0, none⟩ = some (.int .i64 a0_0) := (blk_cell BK232.out 0).trans rfl; have hcz13_1 : w12.cell? ⟨gb232, 1, none⟩ = some (.int .i64 a0_1) := (blk_cell BK232.out 1).trans rfl; have hfz13_0 := blk_frozen BK232.out 0; have hfz13_1 := blk_frozen BK232.out 1) | ((with_reducible refine gate_callee (f := 35) rfl ?_); refine goesL_ (some 12) rfl rfl Tryd.func35 (by kernel_rfl) rfl #[.agg #[.int .i64 a0_0, .int .i64 a0_1], .int .i64 0, .int .i64 0] rfl (by first | rfl | (simp only [List.map_toArray, List.map_cons, List.map_nil, List.length_drop, List.length_take]; rfl)) ?_; (with_reducible refine (spec_l7Least.calls k a0_0 a0_1 0 0 t234 _ A9.out).mono ?_); rintro e w14 ⟨rfl, hb⟩; refine ⟨_, rfl, ?_⟩; have n0_ := Aside0.mk (blk_below (g := gb232) (o := .cells #[.int .i64 a0_0, .int .i64 a0_1] 25 (0, 0)) (by (with_reducible repeat (first | refine blk_drewN ?_ _ | refine blk_drew ?_ | refine blk_alloc ?_ _)); exact BK232.out) hb); have n1_ := Aside0.mk (below_step (by repeat (first | (with_reducible first | exact HB.out | apply below_alloc | apply pw_below_drewN | apply below_drew1 | refine below_set ?_ GE232.out) | exact HB.out)) hb); clear BK232; clear HB; have BK232 := n0_; have HB := n1_; clear n0_ n1_; (try clear hb); (try clear hb2); (try clear hk); (try clear hi)))
   go_ret
   exact ⟨by first | rfl | (simp [errW_none, errW_some] <;> rfl) | (simp [*, errW_none, errW_some] <;> rfl), by repeat (first | (with_reducible first | exact HB.out | apply below_alloc | apply pw_below_drewN | apply below_drew1 | refine below_set ?_ GE232.out) | exact HB.out)⟩
 ·replace c3 := Bool.eq_false_iff.mpr c3
  subst c3
  have H1 : (some (-1)) = some r := by rw [if_neg (show ¬ (false = true) by decide)] at H; exact H
  clear H; have H := H1; clear H1
  obtain rfl := Option.some.inj H
  go_enter Tryd.func10, Tryd.ntmps10
  go_wp2_with (first | ((with_reducible refine gate_dst (N := 1) rfl ?_); refine box_event ?hg (N := 1) ?hd (cs := #[.int .i64 a0_0, .int .i64 a0_1]) (t := 25) ?hr ?_; (case hd => rfl); (case hg => rfl); (case hr => first | (go_simp; done) | (go_simp; rfl)); intro gb232 hg w15 hbox hb; have n0_ := Aside0.mk (below_step (by repeat (first | (with_reducible first | exact HB.out | apply below_alloc | apply pw_below_drewN | apply below_drew1) | exact HB.out)) hb); have n1_ := Aside0.mk (hbox); have n2_ := Aside0.mk ((by rw [hg]; exact (below_size (by repeat (first | (with_reducible first | exact HB.out | apply below_alloc | apply pw_below_drewN | apply below_drew1) | exact HB.out))) : w.heap.size ≤ gb232)); have n3_ := Aside0.mk ((by rw [hg]; exact (below_size (by repeat (first | (with_reducible first | exact HB.out | apply below_alloc | apply pw_below_drewN | apply below_drew1) | exact HB.out))) : w.heap.size ≤ gb232)); clear HB; have HB := n0_; have BK232 := n1_; have GW232 := n2_; have GE232 := n3_; clear n0_ n1_ n2_ n3_; clear hb hbox hg; have hcz16_0 : w15.cell? ⟨gb232, 0, none⟩ = some (.int .i64 a0_0) := (blk_cell BK232.out 0).trans rfl; have hcz16_1 : w15.cell? ⟨gb232, 1, none⟩ = some (.int .i64 a0_1) := (blk_cell BK232.out 1).trans rfl; have hfz16_0 := blk_frozen BK232.out 0; have hfz16_1 := blk_frozen BK232.out 1) | ((with_reducible refine gate_callee (f := 31) rfl ?_); refine goesL_ (some 4) rfl rfl Tryd.func31 (by kernel_rfl) rfl #[.agg #[.int .i64 a0_0, .int .i64 a0_1]] rfl (by first | rfl | (simp only [List.map_toArray, List.map_cons, List.map_nil, List.length_drop, List.length_take]; rfl)) ?_; (with_reducible refine (spec_IsTable.calls a0_0 a0_1 false _ A2.out).mono ?_); rintro e w17 ⟨rfl, hb⟩; refine ⟨_, rfl, ?_⟩; have n0_ := Aside0.mk (blk_below (g := gb232) (o := .cells #[.int .i64 a0_0, .int .i64 a0_1] 25 (0, 0)) (by (with_reducible repeat (first | refine blk_drewN ?_ _ | refine blk_drew ?_ | refine blk_alloc ?_ _)); exact BK232.out) hb); have n1_ := Aside0.mk (below_step (by repeat (first | (with_reducible first | exact HB.out | apply below_alloc | apply pw_below_drewN | apply below_drew1 | refine below_set ?_ GE232.out) | exact HB.out)) hb); clear BK232; clear HB; have BK232 := n0_; have HB := n1_; clear n0_ n1_; (try clear hb); (try clear hb2); (try clear hk); (try clear hi)))
  go_ret
  exact ⟨by first | rfl | (simp [errW_none, errW_some] <;> rfl) | (simp [*, errW_none, errW_some] <;> rfl), by repeat (first | (with_reducible first | exact HB.out | apply below_alloc | apply pw_below_drewN | apply below_drew1 | refine below_set ?_ GE232.out) | exact HB.out)⟩
/-! ### spec_l7Average: function 36 -/
mutual
def spec_l7Average.l0 : Nat → Int → Int → Int → Int → Int → Int → Int → Option (Int)
 | 0, _, _, _, _, _, _, _ => none
 | k + 1, x1, x2, x3, x9, x10, x236000, x236001 => if x10 < x236000 then (if 0 ≤ x10 then (if (Go.bits .and .i64 x1 (shl .i64 1 x10)) = 0 then (if 0 ≤ x3 then ((spec_l7Average.f k x236000 x236001 (Go.bits .or .i64 x1 (shl .i64 1 x10)) x2 (wrap64 (x3 - 1))).bind fun t237 => ((spec_l7Average.f k x236000 x236001 (Go.bits .or .i64 x1 (shl .i64 1 x10)) (Go.bits .or .i64 x2 (shl .i64 1 x10)) (wrap64 (x3 - 1))).bind fun t238 => (spec_l7Average.l0 k x1 x2 x3 (mn x9 (wrap64 ((wrap64 ((shl .i64 1 x3) + t237)) + t238))) (wrap64 (x10 + 1)) x236000 x236001))) else (none)) else (spec_l7Average.l0 k x1 x2 x3 x9 (wrap64 (x10 + 1)) x236000 x236001)) else (none)) else (some x9)
def spec_l7Average.f : Nat → Int → Int → Int → Int → Int → Option (Int)
 | 0, _, _, _, _, _ => none
 | k + 1, a0_0, a0_1, a1, a2, a3 => (spec_l3Cube.f k a0_0 a0_1 a1 a2).bind fun t236 => (if t236 < 2 then (some 0) else (spec_l7Average.l0 k a1 a2 a3 1000 0 a0_0 a0_1))
end
def spec_l7Average.T9 : Bool × List (List Nat × List Nat) := (true, [([], []), ([], []), ([1], [1]), ([], []), ([], []), ([], []), ([4, 5], [4, 5]), ([], []), ([], []), ([8], [8]), ([3, 6, 7, 9], [3, 6, 7, 9]), ([2, 10], [2, 10]), ([], []), ([], []), ([], []), ([13, 14], [13, 14]), ([], []), ([], []), ([16, 17], [16, 17]), ([], []), ([19], [19]), ([12, 15, 18, 20, 10], [12, 15, 18, 20]), ([11, 21], [11, 21]), ([0, 22], [0, 22]), ([23, 21, 0, 1, 2, 3, 4, 5, 6, 7, 8, 9, 10, 11, 12, 13, 14, 15, 16, 17, 18, 19, 20, 21, 22, 23], [0, 23])])
def spec_l7Average.B9 : List Nat := [0, 0, 2, 0, 0, 0, 48, 0, 0, 256, 1016, 2046, 0, 0, 0, 24576, 0, 0, 196608, 0, 524288, 2095096, 4194302, 8388607, 16777215]
theorem spec_l7Average.tab9 : rtab .any (opsOf Tryd.f36 9) = spec_l7Average.T9 := by kernel_rfl
theorem spec_l7Average.bits9 : waitsOk spec_l7Average.T9.2 spec_l7Average.B9 = true := by kernel_rfl
theorem spec_l7Average.calls (k : Nat) : ∀ (a0_0 : Int) (a0_1 : Int) (a1 : Int) (a2 : Int) (a3 : Int) (r : Int) (w : World) (h : spec_l7Average.f k a0_0 a0_1 a1 a2 a3 = some r),
  Calls Tryd.prog 36 #[.agg #[.int .i64 a0_0, .int .i64 a0_1], .int .i64 a1, .int .i64 a2, .int .i64 a3] w fun e w' => e = .returned (.int .i64 r) ∧ Below w.heap.size w w' := by
 induction k using Nat.strongRecOn with
 | _ k ih =>
 intro a0_0 a0_1 a1 a2 a3 r w h
 cases k with
 | zero => exact absurd h (by simp [spec_l7Average.f])
 | succ k =>
 simp only [spec_l7Average.f] at h
 have hu25 := Tryd.underlying25
 have HB := Aside0.mk (Below.refl w.heap.size w)
 have H : ((spec_l3Cube.f k a0_0 a0_1 a1 a2).bind fun t236 => (if t236 < 2 then (some 0) else (spec_l7Average.l0 k a1 a2 a3 1000 0 a0_0 a0_1))) = some r := h
 clear h; replace H := Option.bind_eq_some_iff.mp H; obtain ⟨t236, A50, H⟩ := H
 replace H : (if t236 < 2 then (some 0) else (spec_l7Average.l0 k a1 a2 a3 1000 0 a0_0 a0_1)) = some r := H
 have A5 := Aside0.mk A50; clear A50
 by_cases c6 : t236 < 2
 ·rw [if_pos c6] at H
  have c6b0 : decide (t236 < 2) = true := decide_eq_true c6
  clear c6
  obtain rfl := Option.some.inj H
  go_enter Tryd.func36, Tryd.ntmps36
  go_wp2_with (first | ((with_reducible refine gate_dst (N := 4) rfl ?_); refine box_event ?hg (N := 4) ?hd (cs := #[.int .i64 a0_0, .int .i64 a0_1]) (t := 25) ?hr ?_; (case hd => rfl); (case hg => rfl); (case hr => first | (go_simp; done) | (go_simp; rfl)); intro gb235 hg w7 hbox hb; have n0_ := Aside0.mk (below_step (by repeat (first | (with_reducible first | exact HB.out | apply below_alloc | apply pw_below_drewN | apply below_drew1) | exact HB.out)) hb); have n1_ := Aside0.mk (hbox); have n2_ := Aside0.mk ((by rw [hg]; exact (below_size (by repeat (first | (with_reducible first | exact HB.out | apply below_alloc | apply pw_below_drewN | apply below_drew1) | exact HB.out))) : w.heap.size ≤ gb235)); have n3_ := Aside0.mk ((by rw [hg]; exact (below_size (by repeat (first | (with_reducible first | exact HB.out | apply below_alloc | apply pw_below_drewN | apply below_drew1) | exact HB.out))) : w.heap.size ≤ gb235)); clear HB; have HB := n0_; have BK235 := n1_; have GW235 := n2_; have GE235 := n3_; clear n0_ n1_ n2_ n3_; clear hb hbox hg; have hcz8_0 : w7.cell? ⟨gb235, 0, none⟩ = some (.int .i64 a0_0) := (blk_cell BK235.out 0).trans rfl; have hcz8_1 : w7.cell? ⟨gb235, 1, none⟩ = some (.int .i64 a0_1) := (blk_cell BK235.out 1).trans rfl; have hfz8_0 := blk_frozen BK235.out 0; have hfz8_1 := blk_frozen BK235.out 1) | ((with_reducible refine gate_callee (f := 55) rfl ?_); refine goesL_ (some 15) rfl rfl Tryd.func55 (by kernel_rfl) rfl #[.agg #[.int .i64 a0_0, .int .i64 a0_1], .int .i64 a1, .int .i64 a2] rfl (by first | rfl | (simp only [List.map_toArray, List.map_cons, List.map_nil, List.length_drop, List.length_take]; rfl)) ?_; (with_reducible refine (spec_l3Cube.calls k a0_0 a0_1 a1 a2 t236 _ A5.out).mono ?_); rintro e w9 ⟨rfl, hb⟩; refine ⟨_, rfl, ?_⟩; have n0_ := Aside0.mk (blk_below (g := gb235) (o := .cells #[.int .i64 a0_0, .int .i64 a0_1] 25 (0, 0)) (by (with_reducible repeat (first | refine blk_drewN ?_ _ | refine blk_drew ?_ | refine blk_alloc ?_ _)); exact BK235.out) hb); have n1_ := Aside0.mk (below_step (by repeat (first | (with_reducible first | exact HB.out | apply below_alloc | apply pw_below_drewN | apply below_drew1 | refine below_set ?_ GE235.out) | exact HB.out)) hb); clear BK235; clear HB; have BK235 := n0_; have HB := n1_; clear n0_ n1_; (try clear hb); (try clear hb2); (try clear hk); (try clear hi)))
  go_ret
  exact ⟨by first | rfl | (simp [errW_none, errW_some] <;> rfl) | (simp [*, errW_none, errW_some] <;> rfl), by repeat (first | (with_reducible first | exact HB.out | apply below_alloc | apply pw_below_drewN | apply below_drew1 | refine below_set ?_ GE235.out) | exact HB.out)⟩
 ·rw [if_neg c6] at H
  have c6b0 : decide (t236 < 2) = false := decide_eq_false c6
  clear c6
  have H' := Aside0.mk H
  clear H
  go_enter Tryd.func36, Tryd.ntmps36
  go_wp2_with (first | ((with_reducible refine gate_dst (N := 4) rfl ?_); refine box_event ?hg (N := 4) ?hd (cs := #[.int .i64 a0_0, .int .i64 a0_1]) (t := 25) ?hr ?_; (case hd => rfl); (case hg => rfl); (case hr => first | (go_simp; done) | (go_simp; rfl)); intro gb235 hg w10 hbox hb; have n0_ := Aside0.mk (below_step (by repeat (first | (with_reducible first | exact HB.out | apply below_alloc | apply pw_below_drewN | apply below_drew1) | exact HB.out)) hb); have n1_ := Aside0.mk (hbox); have n2_ := Aside0.mk ((by rw [hg]; exact (below_size (by repeat (first | (with_reducible first | exact HB.out | apply below_alloc | apply pw_below_drewN | apply below_drew1) | exact HB.out))) : w.heap.size ≤ gb235)); have n3_ := Aside0.mk ((by rw [hg]; exact (below_size (by repeat (first | (with_reducible first | exact HB.out | apply below_alloc | apply pw_below_drewN | apply below_drew1) | exact HB.out))) : w.heap.size ≤ gb235)); clear HB; have HB := n0_; have BK235 := n1_; have GW235 := n2_; have GE235 := n3_; clear n0_ n1_ n2_ n3_; clear hb hbox hg; have hcz11_0 : w10.cell? ⟨gb235, 0, none⟩ = some (.int .i64 a0_0) := (blk_cell BK235.out 0).trans rfl; have hcz11_1 : w10.cell? ⟨gb235, 1, none⟩ = some (.int .i64 a0_1) := (blk_cell BK235.out 1).trans rfl; have hfz11_0 := blk_frozen BK235.out 0; have hfz11_1 := blk_frozen BK235.out 1) | ((with_reducible refine gate_callee (f := 55) rfl ?_); refine goesL_ (some 15) rfl rfl Tryd.func55 (by kernel_rfl) rfl #[.agg #[.int .i64 a0_0, .int .i64 a0_1], .int .i64 a1, .int .i64 a2] rfl (by first | rfl | (simp only [List.map_toArray, List.map_cons, List.map_nil, List.length_drop, List.length_take]; rfl)) ?_; (with_reducible refine (spec_l3Cube.calls k a0_0 a0_1 a1 a2 t236 _ A5.out).mono ?_); rintro e w12 ⟨rfl, hb⟩; refine ⟨_, rfl, ?_⟩; have n0_ := Aside0.mk (blk_below (g := gb235) (o := .cells #[.int .i64 a0_0, .int .i64 a0_1] 25 (0, 0)) (by (with_reducible repeat (first | refine blk_drewN ?_ _ | refine blk_drew ?_ | refine blk_alloc ?_ _)); exact BK235.out) hb); have n1_ := Aside0.mk (below_step (by repeat (first | (with_reducible first | exact HB.out | apply below_alloc | apply pw_below_drewN | apply below_drew1 | refine below_set ?_ GE235.out) | exact HB.out)) hb); clear BK235; clear HB; have BK235 := n0_; have HB := n1_; clear n0_ n1_; (try clear hb); (try clear hb2); (try clear hk); (try clear hi)))
  go_loopg [9, 10] k (fun kq v9 v10 w' => ∃ (x9_1 : Int) (x10_1 : Int), v9 = .int .i64 x9_1 ∧ v10 = .int .i64 x10_1 ∧ Aside0 (spec_l7Average.l0 kq a1 a2 a3 x9_1 x10_1 a0_0 a0_1 = some r) ∧ Aside0 (kq ≤ k) ∧ Aside0 (w'.heap[gb235]? = some (.cells #[.int .i64 a0_0, .int .i64 a0_1] 25 (0, 0))) ∧ Aside0 (Below w.heap.size w w'))
  case atStart => exact ⟨(1000), (0), (by first | rfl | (simp; done) | (simp [*]; done)), (by first | rfl | (simp; done) | (simp [*]; done)), H', ⟨Nat.le_refl _⟩, ⟨by (with_reducible repeat (first | refine blk_drewN ?_ _ | refine blk_drew ?_ | refine blk_alloc ?_ _)); exact BK235.out⟩, ⟨by repeat (first | (with_reducible first | exact HB.out | apply below_alloc | apply pw_below_drewN | apply below_drew1 | refine below_set ?_ GE235.out) | exact HB.out)⟩⟩
  case round =>
   clear H'; (try clear p2); (try clear c3); (try clear c5); (try clear c6); (try clear c6b0); (try clear hcz11_0); (try clear hcz11_1); (try clear hcz8_0); (try clear hcz8_1); (try clear hfz11_0); (try clear hfz11_1); (try clear hfz8_0); (try clear hfz8_1); obtain ⟨x9_1, x10_1, rfl, rfl, HA, HK1, BK235, HB⟩ := hrel
   cases gk with
   | zero => exact absurd HA.out (by simp [spec_l7Average.l0])
   | succ k1 =>
    have H := HA.out
    clear HA
    simp only [spec_l7Average.l0] at H
    by_cases c13 : x10_1 < a0_0
    ·rw [if_pos c13] at H
     have c13b0 : decide (x10_1 < a0_0) = true := decide_eq_true c13
     clear c13
     by_cases c14 : 0 ≤ x10_1
     ·rw [if_pos c14] at H
      have c14b0 := eq_true c14
      have c14b1 : decide (0 ≤ x10_1) = true := decide_eq_true c14
      clear c14
      obtain ⟨ji15, hji15⟩ : ∃ j_ : Int, (shl .i64 1 x10_1) = j_ := ⟨_, rfl⟩
      replace H : (if (Go.bits .and .i64 a1 (ji15)) = 0 then (if 0 ≤ a3 then ((spec_l7Average.f k1 a0_0 a0_1 (Go.bits .or .i64 a1 (ji15)) a2 (wrap64 (a3 - 1))).bind fun t237 => ((spec_l7Average.f k1 a0_0 a0_1 (Go.bits .or .i64 a1 (ji15)) (Go.bits .or .i64 a2 (ji15)) (wrap64 (a3 - 1))).bind fun t238 => (spec_l7Average.l0 k1 a1 a2 a3 (mn x9_1 (wrap64 ((wrap64 ((shl .i64 1 a3) + t237)) + t238))) (wrap64 (x10_1 + 1)) a0_0 a0_1))) else (none)) else (spec_l7Average.l0 k1 a1 a2 a3 x9_1 (wrap64 (x10_1 + 1)) a0_0 a0_1)) = some r := by first | (rw [hji15] at H; exact H) | (simp only [hji15] at H ⊢; exact H)
      have hji15_ : (IntKind.i64.wrap (1 * 2 ^ min x10_1.toNat 64)) = ji15 := hji15
      have hji15z : x10_1 ≤ 64 → (IntKind.i64.wrap (1 * 2 ^ x10_1.toNat)) = ji15 := shl_small hji15
      have hji15u : (IntKind.i64.wrap (2 ^ min x10_1.toNat 64)) = ji15 := by have h_ := hji15_; rw [Int.one_mul] at h_; exact h_
      have hji15v : x10_1 ≤ 64 → (IntKind.i64.wrap (2 ^ x10_1.toNat)) = ji15 := fun hle_ => by have h_ := hji15z hle_; rw [Int.one_mul] at h_; exact h_
      have hji15y : (wrap64 (1 * 2 ^ min x10_1.toNat 64)) = ji15 := (i64_w _).symm.trans hji15_
      have hji15x : x10_1 ≤ 64 → (wrap64 (1 * 2 ^ x10_1.toNat)) = ji15 := fun h_ => (i64_w _).symm.trans (hji15z h_)
      by_cases c16 : (Go.bits .and .i64 a1 (ji15)) = 0
      ·rw [if_pos c16] at H
       have c16b0 : ((Go.bits .and .i64 a1 (ji15)) == 0) = true := beq_iff_eq.mpr c16
       have c16b1 : ((Go.bits .and .i64 a1 (ji15)) != 0) = false := bne_eq_false_iff_eq.mpr c16
       clear c16
       by_cases c17 : 0 ≤ a3
       ·rw [if_pos c17] at H
        have c17b0 := eq_true c17
        have c17b1 : decide (0 ≤ a3) = true := decide_eq_true c17
        clear c17
        obtain ⟨ji18, hji18⟩ : ∃ j_ : Int, (shl .i64 1 a3) = j_ := ⟨_, rfl⟩
        replace H : ((spec_l7Average.f k1 a0_0 a0_1 (Go.bits .or .i64 a1 (ji15)) a2 (wrap64 (a3 - 1))).bind fun t237 => ((spec_l7Average.f k1 a0_0 a0_1 (Go.bits .or .i64 a1 (ji15)) (Go.bits .or .i64 a2 (ji15)) (wrap64 (a3 - 1))).bind fun t238 => (spec_l7Average.l0 k1 a1 a2 a3 (mn x9_1 (wrap64 ((wrap64 ((ji18) + t237)) + t238))) (wrap64 (x10_1 + 1)) a0_0 a0_1))) = some r := by first | (rw [hji18] at H; exact H) | (simp only [hji18] at H ⊢; exact H)
        have hji18_ : (IntKind.i64.wrap (1 * 2 ^ min a3.toNat 64)) = ji18 := hji18
        have hji18z : a3 ≤ 64 → (IntKind.i64.wrap (1 * 2 ^ a3.toNat)) = ji18 := shl_small hji18
        have hji18u : (IntKind.i64.wrap (2 ^ min a3.toNat 64)) = ji18 := by have h_ := hji18_; rw [Int.one_mul] at h_; exact h_
        have hji18v : a3 ≤ 64 → (IntKind.i64.wrap (2 ^ a3.toNat)) = ji18 := fun hle_ => by have h_ := hji18z hle_; rw [Int.one_mul] at h_; exact h_
        have hji18y : (wrap64 (1 * 2 ^ min a3.toNat 64)) = ji18 := (i64_w _).symm.trans hji18_
        have hji18x : a3 ≤ 64 → (wrap64 (1 * 2 ^ a3.toNat)) = ji18 := fun h_ => (i64_w _).symm.trans (hji18z h_)
        replace H := Option.bind_eq_some_iff.mp H; obtain ⟨t237, A190, H⟩ := H; (try dsimp only at H); have A19 := Aside0.mk A190; clear A190; replace H := Option.bind_eq_some_iff.mp H; obtain ⟨t238, A200, H⟩ := H; (try dsimp only at H); have A20 := Aside0.mk A200; clear A200
        obtain ⟨ji21, hji21⟩ : ∃ j_ : Int, (mn x9_1 (wrap64 ((wrap64 ((ji18) + t237)) + t238))) = j_ := ⟨_, rfl⟩
        replace H : (spec_l7Average.l0 k1 a1 a2 a3 ji21 (wrap64 (x10_1 + 1)) a0_0 a0_1) = some r := by first | (rw [hji21] at H; exact H) | (simp only [hji21] at H ⊢; exact H)
        (try rw [hji21] at A19)
        (try rw [hji21] at A20)
        have hji21_ : (if (wrap64 ((wrap64 ((ji18) + t237)) + t238)) < x9_1 then (wrap64 ((wrap64 ((ji18) + t237)) + t238)) else x9_1) = ji21 := hji21
        have H' := Aside0.mk H
        clear H
        have hcz22_0 : wr.cell? ⟨gb235, 0, none⟩ = some (.int .i64 a0_0) := (blk_cell BK235.out 0).trans rfl
        have hcz22_1 : wr.cell? ⟨gb235, 1, none⟩ = some (.int .i64 a0_1) := (blk_cell BK235.out 1).trans rfl
        have hfz22_0 := blk_frozen BK235.out 0
        have hfz22_1 := blk_frozen BK235.out 1
        try go_wp2
        have n0_ := Aside0.mk (blk_drew BK235.out)
        have n1_ := Aside0.mk (below_drew1 HB.out)
        clear BK235; clear HB; have BK235 := n0_; have HB := n1_; clear n0_ n1_
        refine start_ (n := 25) (S := fun w' => w'.cell? ⟨gb235, 0, none⟩ = some (.int .i64 a0_0) ∧ w'.cell? ⟨gb235, 1, none⟩ = some (.int .i64 a0_1)) (ds := []) #[false, false, false, false, false, false, false, false, false, false, false, false, false, false, false, false, false, false, false, false, false, false, false, false, false] (by kernel_rfl) rfl rfl ⟨(blk_cell BK235.out 0).trans rfl, (blk_cell BK235.out 1).trans rfl⟩ (fun hHeld => ?_); refine with_tabW spec_l7Average.tab9 spec_l7Average.bits9 (fun HT_ HW_ => ?_)
        generalize wr.drew = w23 at BK235 HB hHeld ⊢
        refine pure_ (i := 0) (N := some 29) (v := ?_) (a' := ?_) #[true, false, false, false, false, false, false, false, false, false, false, false, false, false, false, false, false, false, false, false, false, false, false, false, false] rfl rfl (any_of HT_.out (by kernel_rfl)) (fun _ _ _ h => h) (Or.inl ⟨by rfl, ?_⟩) ?_ ?_; rotate_left
        ·intro w'; go_simp; with_reducible rfl
        rotate_left
        ·simp only [Act.put, sT_, s0_, s1_, i64_w, i32_w]; rfl
        refine pure_ (i := 1) (N := some 30) (v := ?_) (a' := ?_) #[true, true, false, false, false, false, false, false, false, false, false, false, false, false, false, false, false, false, false, false, false, false, false, false, false] rfl rfl (any_of HT_.out (by kernel_rfl)) (fun _ _ _ h => h) (Or.inl ⟨by rfl, ?_⟩) ?_ ?_; rotate_left
        ·intro w'; go_simp; with_reducible rfl
        rotate_left
        ·simp only [Act.put, sT_, s0_, s1_, i64_w, i32_w]; rfl
        refine pure_ (i := 2) (N := some 31) (v := ?_) (a' := ?_) #[true, true, true, false, false, false, false, false, false, false, false, false, false, false, false, false, false, false, false, false, false, false, false, false, false] rfl rfl (any_of HT_.out (by kernel_rfl)) (fun _ _ _ h => h) (Or.inl ⟨by rfl, ?_⟩) ?_ ?_; rotate_left
        ·intro w'; go_simp; with_reducible rfl
        rotate_left
        ·simp only [Act.put, sT_, s0_, s1_, i64_w, i32_w]; rfl
        refine pure_ (i := 4) (N := some 33) (v := ?_) (a' := ?_) #[true, true, true, false, true, false, false, false, false, false, false, false, false, false, false, false, false, false, false, false, false, false, false, false, false] rfl rfl (any_of HT_.out (by kernel_rfl)) (fun _ _ _ h => h) (Or.inl ⟨by rfl, ?_⟩) ?_ ?_; rotate_left
        ·intro w'; go_simp; with_reducible rfl
        rotate_left
        ·simp only [Act.put, sT_, s0_, s1_, i64_w, i32_w]; rfl
        refine pure_ (i := 5) (N := some 34) (v := ?_) (a' := ?_) #[true, true, true, false, true, true, false, false, false, false, false, false, false, false, false, false, false, false, false, false, false, false, false, false, false] rfl rfl (any_of HT_.out (by kernel_rfl)) (fun _ _ _ h => h) (Or.inl ⟨by rfl, ?_⟩) ?_ ?_; rotate_left
        ·intro w'; go_simp; with_reducible rfl
        rotate_left
        ·simp only [Act.put, sT_, s0_, s1_, i64_w, i32_w]; rfl
        refine pure_ (i := 6) (N := some 35) (v := ?_) (a' := ?_) #[true, true, true, false, true, true, true, false, false, false, false, false, false, false, false, false, false, false, false, false, false, false, false, false, false] rfl rfl (any_of HT_.out (by kernel_rfl)) (fun _ _ _ h => h) (Or.inl ⟨by rfl, ?_⟩) ?_ ?_; rotate_left
        ·intro w'; go_simp; with_reducible rfl
        rotate_left
        ·simp only [Act.put, sT_, s0_, s1_, i64_w, i32_w]; rfl
        refine pure_ (i := 7) (N := some 36) (v := ?_) (a' := ?_) #[true, true, true, false, true, true, true, true, false, false, false, false, false, false, false, false, false, false, false, false, false, false, false, false, false] rfl rfl (any_of HT_.out (by kernel_rfl)) (fun _ _ _ h => h) (Or.inl ⟨by rfl, ?_⟩) ?_ ?_; rotate_left
        ·intro w'; go_simp; with_reducible rfl
        rotate_left
        ·simp only [Act.put, sT_, s0_, s1_, i64_w, i32_w]; rfl
        refine pure_ (i := 8) (N := some 37) (v := ?_) (a' := ?_) #[true, true, true, false, true, true, true, true, true, false, false, false, false, false, false, false, false, false, false, false, false, false, false, false, false] rfl rfl (any_of HT_.out (by kernel_rfl)) (fun _ _ _ h => h) (Or.inl ⟨by rfl, ?_⟩) ?_ ?_; rotate_left
        ·intro w'; go_simp; with_reducible rfl
        rotate_left
        ·simp only [Act.put, sT_, s0_, s1_, i64_w, i32_w]; rfl
        refine pure_ (i := 9) (N := some 38) (v := ?_) (a' := ?_) #[true, true, true, false, true, true, true, true, true, true, false, false, false, false, false, false, false, false, false, false, false, false, false, false, false] rfl rfl (any_of HT_.out (by kernel_rfl)) (fun _ _ _ h => h) (Or.inl ⟨by rfl, ?_⟩) ?_ ?_; rotate_left
        ·intro w'; go_simp; with_reducible rfl
        rotate_left
        ·simp only [Act.put, sT_, s0_, s1_, i64_w, i32_w]; rfl
        refine pure_ (i := 13) (N := some 42) (v := ?_) (a' := ?_) #[true, true, true, false, true, true, true, true, true, true, false, false, false, true, false, false, false, false, false, false, false, false, false, false, false] rfl rfl (any_of HT_.out (by kernel_rfl)) (fun _ _ _ h => h) (Or.inl ⟨by rfl, ?_⟩) ?_ ?_; rotate_left
        ·intro w'; go_simp; with_reducible rfl
        rotate_left
        ·simp only [Act.put, sT_, s0_, s1_, i64_w, i32_w]; rfl
        refine pure_ (i := 14) (N := some 43) (v := ?_) (a' := ?_) #[true, true, true, false, true, true, true, true, true, true, false, false, false, true, true, false, false, false, false, false, false, false, false, false, false] rfl rfl (any_of HT_.out (by kernel_rfl)) (fun _ _ _ h => h) (Or.inl ⟨by rfl, ?_⟩) ?_ ?_; rotate_left
        ·intro w'; go_simp; with_reducible rfl
        rotate_left
        ·simp only [Act.put, sT_, s0_, s1_, i64_w, i32_w]; rfl
        refine pure_ (i := 15) (N := some 44) (v := ?_) (a' := ?_) #[true, true, true, false, true, true, true, true, true, true, false, false, false, true, true, true, false, false, false, false, false, false, false, false, false] rfl rfl (any_of HT_.out (by kernel_rfl)) (fun _ _ _ h => h) (Or.inl ⟨by rfl, ?_⟩) ?_ ?_; rotate_left
        ·intro w'; go_simp; with_reducible rfl
        rotate_left
        ·simp only [Act.put, sT_, s0_, s1_, i64_w, i32_w]; rfl
        refine pure_ (i := 16) (N := some 45) (v := ?_) (a' := ?_) #[true, true, true, false, true, true, true, true, true, true, false, false, false, true, true, true, true, false, false, false, false, false, false, false, false] rfl rfl (any_of HT_.out (by kernel_rfl)) (fun _ _ _ h => h) (Or.inl ⟨by rfl, ?_⟩) ?_ ?_; rotate_left
        ·intro w'; go_simp; with_reducible rfl
        rotate_left
        ·simp only [Act.put, sT_, s0_, s1_, i64_w, i32_w]; rfl
        refine pure_ (i := 17) (N := some 46) (v := ?_) (a' := ?_) #[true, true, true, false, true, true, true, true, true, true, false, false, false, true, true, true, true, true, false, false, false, false, false, false, false] rfl rfl (any_of HT_.out (by kernel_rfl)) (fun _ _ _ h => h) (Or.inl ⟨by rfl, ?_⟩) ?_ ?_; rotate_left
        ·intro w'; go_simp; with_reducible rfl
        rotate_left
        ·simp only [Act.put, sT_, s0_, s1_, i64_w, i32_w]; rfl
        refine pure_ (i := 18) (N := some 47) (v := ?_) (a' := ?_) #[true, true, true, false, true, true, true, true, true, true, false, false, false, true, true, true, true, true, true, false, false, false, false, false, false] rfl rfl (any_of HT_.out (by kernel_rfl)) (fun _ _ _ h => h) (Or.inl ⟨by rfl, ?_⟩) ?_ ?_; rotate_left
        ·intro w'; go_simp; with_reducible rfl
        rotate_left
        ·simp only [Act.put, sT_, s0_, s1_, i64_w, i32_w]; rfl
        refine pure_ (i := 19) (N := some 48) (v := ?_) (a' := ?_) #[true, true, true, false, true, true, true, true, true, true, false, false, false, true, true, true, true, true, true, true, false, false, false, false, false] rfl rfl (any_of HT_.out (by kernel_rfl)) (fun _ _ _ h => h) (Or.inl ⟨by rfl, ?_⟩) ?_ ?_; rotate_left
        ·intro w'; go_simp; with_reducible rfl
        rotate_left
        ·simp only [Act.put, sT_, s0_, s1_, i64_w, i32_w]; rfl
        refine pure_ (i := 20) (N := some 49) (v := ?_) (a' := ?_) #[true, true, true, false, true, true, true, true, true, true, false, false, false, true, true, true, true, true, true, true, true, false, false, false, false] rfl rfl (any_of HT_.out (by kernel_rfl)) (fun _ _ _ h => h) (Or.inl ⟨by rfl, ?_⟩) ?_ ?_; rotate_left
        ·intro w'; go_simp; with_reducible rfl
        rotate_left
        ·simp only [Act.put, sT_, s0_, s1_, i64_w, i32_w]; rfl
        refine take_ (i := 3) (N := some 32) (v := ?_) (a' := ?_) #[true, true, true, true, true, true, true, true, true, true, false, false, false, true, true, true, true, true, true, true, true, false, false, false, false] rfl rfl (take_ofW HT_.out HW_.out (by kernel_rfl)) (fun _ _ _ h => h) (Or.inl ⟨by rfl, ?_⟩) hHeld ?_ ?_
        rotate_left
        ·rintro w' ⟨s0, s1⟩
         go_simp; with_reducible rfl
        rotate_left
        ·simp only [Act.put, sT_, s0_, s1_, i64_w, i32_w]; rfl
        refine take_ (i := 12) (N := some 41) (v := ?_) (a' := ?_) #[true, true, true, true, true, true, true, true, true, true, false, false, true, true, true, true, true, true, true, true, true, false, false, false, false] rfl rfl (take_ofW HT_.out HW_.out (by kernel_rfl)) (fun _ _ _ h => h) (Or.inl ⟨by rfl, ?_⟩) hHeld ?_ ?_
        rotate_left
        ·rintro w' ⟨s0, s1⟩
         go_simp; with_reducible rfl
        rotate_left
        ·simp only [Act.put, sT_, s0_, s1_, i64_w, i32_w]; rfl
        refine one_ (i := 10) (N := some 39) #[true, true, true, true, true, true, true, true, true, true, true, false, true, true, true, true, true, true, true, true, true, false, false, false, false] rfl rfl (one_of HT_.out (by kernel_rfl)) (by decide) (fun K hK => ?_)
        refine goes_ Tryd.func36 (by kernel_rfl) rfl #[.agg #[.int .i64 a0_0, .int .i64 a0_1], .int .i64 (Go.bits .or .i64 a1 (ji15)), .int .i64 a2, .int .i64 (wrap64 (a3 - 1))] (by rfl) rfl rfl (by (try simp only [List.map_toArray, List.map_cons, List.map_nil]); first | done | (simp only [hji15]; rfl) | rfl | (simp only [List.length_drop, List.length_take]; rfl)) ?_
        with_reducible refine (ih k1 (by have := HK1.out; omega) a0_0 a0_1 (Go.bits .or .i64 a1 (ji15)) a2 (wrap64 (a3 - 1)) t237 _ A19.out).mono ?_
        rintro e w24 ⟨rfl, hb⟩
        refine ⟨_, rfl, ?_⟩
        have n0_ := Aside0.mk (blk_below (g := gb235) (o := .cells #[.int .i64 a0_0, .int .i64 a0_1] 25 (0, 0)) (by (with_reducible repeat (first | refine blk_drewN ?_ _ | refine blk_drew ?_ | refine blk_alloc ?_ _)); exact BK235.out) hb)
        have n1_ := Aside0.mk (below_step (by repeat (first | (with_reducible first | exact HB.out | apply below_alloc | apply pw_below_drewN | apply below_drew1 | refine below_set ?_ GE235.out) | exact HB.out)) hb)
        clear BK235; clear HB; have BK235 := n0_; have HB := n1_; clear n0_ n1_; (try clear hb); (try clear hb2); (try clear hk); (try clear hi)
        refine hK.out _ _ ⟨(blk_cell BK235.out 0).trans rfl, (blk_cell BK235.out 1).trans rfl⟩ (fun hHeld => ?_)
        clear hK K
        refine norm_ (a' := ?_) ?_ ?_
        rotate_left
        ·show Act.put _ (some 39) _ = _
         simp only [Act.put, sT_, s0_, s1_, i64_w, i32_w]; rfl
        refine pure_ (i := 11) (N := some 40) (v := ?_) (a' := ?_) #[true, true, true, true, true, true, true, true, true, true, true, true, true, true, true, true, true, true, true, true, true, false, false, false, false] rfl rfl (any_of HT_.out (by kernel_rfl)) (fun _ _ _ h => h) (Or.inl ⟨by rfl, ?_⟩) ?_ ?_; rotate_left
        ·intro w'; go_simp; with_reducible rfl
        rotate_left
        ·simp only [Act.put, sT_, s0_, s1_, i64_w, i32_w]; rfl
        refine one_ (i := 21) (N := some 50) #[true, true, true, true, true, true, true, true, true, true, true, true, true, true, true, true, true, true, true, true, true, true, false, false, false] rfl rfl (one_of HT_.out (by kernel_rfl)) (by decide) (fun K hK => ?_)
        refine goes_ Tryd.func36 (by kernel_rfl) rfl #[.agg #[.int .i64 a0_0, .int .i64 a0_1], .int .i64 (Go.bits .or .i64 a1 (ji15)), .int .i64 (Go.bits .or .i64 a2 (ji15)), .int .i64 (wrap64 (a3 - 1))] (by rfl) rfl rfl (by (try simp only [List.map_toArray, List.map_cons, List.map_nil]); first | done | (simp only [hji15]; rfl) | rfl | (simp only [List.length_drop, List.length_take]; rfl)) ?_
        with_reducible refine (ih k1 (by have := HK1.out; omega) a0_0 a0_1 (Go.bits .or .i64 a1 (ji15)) (Go.bits .or .i64 a2 (ji15)) (wrap64 (a3 - 1)) t238 _ A20.out).mono ?_
        rintro e w25 ⟨rfl, hb⟩
        refine ⟨_, rfl, ?_⟩
        have n0_ := Aside0.mk (blk_below (g := gb235) (o := .cells #[.int .i64 a0_0, .int .i64 a0_1] 25 (0, 0)) (by (with_reducible repeat (first | refine blk_drewN ?_ _ | refine blk_drew ?_ | refine blk_alloc ?_ _)); exact BK235.out) hb)
        have n1_ := Aside0.mk (below_step (by repeat (first | (with_reducible first | exact HB.out | apply below_alloc | apply pw_below_drewN | apply below_drew1 | refine below_set ?_ GE235.out) | exact HB.out)) hb)
        clear BK235; clear HB; have BK235 := n0_; have HB := n1_; clear n0_ n1_; (try clear hb); (try clear hb2); (try clear hk); (try clear hi)
        refine hK.out _ _ ⟨(blk_cell BK235.out 0).trans rfl, (blk_cell BK235.out 1).trans rfl⟩ (fun hHeld => ?_)
        clear hK K
        refine norm_ (a' := ?_) ?_ ?_
        rotate_left
        ·show Act.put _ (some 50) _ = _
         simp only [Act.put, sT_, s0_, s1_, i64_w, i32_w]; rfl
        refine pure_ (i := 22) (N := some 51) (v := ?_) (a' := ?_) #[true, true, true, true, true, true, true, true, true, true, true, true, true, true, true, true, true, true, true, true, true, true, true, false, false] rfl rfl (any_of HT_.out (by kernel_rfl)) (fun _ _ _ h => h) (Or.inl ⟨by rfl, ?_⟩) ?_ ?_; rotate_left
        ·intro w'; go_simp; with_reducible rfl
        rotate_left
        ·simp only [Act.put, sT_, s0_, s1_, i64_w, i32_w]; rfl
        refine pure_ (i := 23) (N := some 52) (v := ?_) (a' := ?_) #[true, true, true, true, true, true, true, true, true, true, true, true, true, true, true, true, true, true, true, true, true, true, true, true, false] rfl rfl (any_of HT_.out (by kernel_rfl)) (fun _ _ _ h => h) (Or.inl ⟨by rfl, ?_⟩) ?_ ?_; rotate_left
        ·intro w'; go_simp; with_reducible rfl
        rotate_left
        ·simp only [Act.put, sT_, s0_, s1_, i64_w, i32_w]; rfl
        refine pure_ (i := 24) (N := some 9) (v := ?_) (a' := ?_) #[true, true, true, true, true, true, true, true, true, true, true, true, true, true, true, true, true, true, true, true, true, true, true, true, true] rfl rfl (any_of HT_.out (by kernel_rfl)) (fun _ _ _ h => h) (Or.inl ⟨by rfl, ?_⟩) ?_ ?_; rotate_left
        ·intro w'; go_simp; with_reducible rfl
        rotate_left
        ·simp only [Act.put, sT_, s0_, s1_, i64_w, i32_w]; rfl
        refine done_ (done_of HT_.out (by kernel_rfl)) ?_
        try go_wp2
        go_roundg k1
        case measure => have := HK1.out; omega
        case rel => exact ⟨(ji21), (wrap64 (x10_1 + 1)), (by first | rfl | (simp; done) | (simp only [← hji21] <;> (first | rfl | simp)) | (simp [*]; done)), (by first | rfl | (simp; done) | (simp [*]; done)), H', ⟨by have := HK1.out; omega⟩, ⟨by (with_reducible repeat (first | refine blk_drewN ?_ _ | refine blk_drew ?_ | refine blk_alloc ?_ _)); exact BK235.out⟩, ⟨by repeat (first | (with_reducible first | exact HB.out | apply below_alloc | apply pw_below_drewN | apply below_drew1 | refine below_set ?_ GE235.out) | exact HB.out)⟩⟩
       ·rw [if_neg c17] at H
        exact absurd H (by simp)
      ·rw [if_neg c16] at H
       have c16b0 : ((Go.bits .and .i64 a1 (ji15)) == 0) = false := beq_eq_false_iff_ne.mpr c16
       have c16b1 : ((Go.bits .and .i64 a1 (ji15)) != 0) = true := bne_iff_ne.mpr c16
       have H' := Aside0.mk H
       clear H
       have hcz26_0 : wr.cell? ⟨gb235, 0, none⟩ = some (.int .i64 a0_0) := (blk_cell BK235.out 0).trans rfl
       have hcz26_1 : wr.cell? ⟨gb235, 1, none⟩ = some (.int .i64 a0_1) := (blk_cell BK235.out 1).trans rfl
       have hfz26_0 := blk_frozen BK235.out 0
       have hfz26_1 := blk_frozen BK235.out 1
       go_wp2
       go_roundg k1
       case measure => have := HK1.out; omega
       case rel => exact ⟨(x9_1), (wrap64 (x10_1 + 1)), (by first | rfl | (simp; done) | (simp [*]; done)), (by first | rfl | (simp; done) | (simp [*]; done)), H', ⟨by have := HK1.out; omega⟩, ⟨by (with_reducible repeat (first | refine blk_drewN ?_ _ | refine blk_drew ?_ | refine blk_alloc ?_ _)); exact BK235.out⟩, ⟨by repeat (first | (with_reducible first | exact HB.out | apply below_alloc | apply pw_below_drewN | apply below_drew1 | refine below_set ?_ GE235.out) | exact HB.out)⟩⟩
     ·rw [if_neg c14] at H
      exact absurd H (by simp)
    ·rw [if_neg c13] at H
     have c13b0 : decide (x10_1 < a0_0) = false := decide_eq_false c13
     clear c13
     obtain rfl := Option.some.inj H
     have hcz27_0 : wr.cell? ⟨gb235, 0, none⟩ = some (.int .i64 a0_0) := (blk_cell BK235.out 0).trans rfl
     have hcz27_1 : wr.cell? ⟨gb235, 1, none⟩ = some (.int .i64 a0_1) := (blk_cell BK235.out 1).trans rfl
     have hfz27_0 := blk_frozen BK235.out 0
     have hfz27_1 := blk_frozen BK235.out 1
     go_wp2
     go_ret
     exact ⟨by first | rfl | (simp [errW_none, errW_some] <;> rfl) | (simp [*, errW_none, errW_some] <;> rfl), by repeat (first | (with_reducible first | exact HB.out | apply below_alloc | apply pw_below_drewN | apply below_drew1 | refine below_set ?_ GE235.out) | exact HB.out)⟩
/-! ### spec_LeastAverage: function 11 -/
def spec_LeastAverage.f (k : Nat) (a0_0 : Int) (a0_1 : Int) : Option (Int) := (spec_IsTable.f a0_0 a0_1).bind fun t240 => (if t240 = true then (if a0_0 > 4 then (some (-1)) else ((spec_l7Average.f k a0_0 a0_1 0 0 a0_0).bind fun t241 => (some t241))) else (some (-1)))
theorem spec_LeastAverage.calls (k : Nat) (a0_0 : Int) (a0_1 : Int) (r : Int) (w : World) (h : spec_LeastAverage.f k a0_0 a0_1 = some r) :
  Calls Tryd.prog 11 #[.agg #[.int .i64 a0_0, .int .i64 a0_1]] w fun e w' => e = .returned (.int .i64 r) ∧ Below w.heap.size w w' := by
 have hu25 := Tryd.underlying25
 have HB := Aside0.mk (Below.refl w.heap.size w)
 have H : ((spec_IsTable.f a0_0 a0_1).bind fun t240 => (if t240 = true then (if a0_0 > 4 then (some (-1)) else ((spec_l7Average.f k a0_0 a0_1 0 0 a0_0).bind fun t241 => (some t241))) else (some (-1)))) = some r := h
 clear h; replace H := Option.bind_eq_some_iff.mp H; obtain ⟨t240, A20, H⟩ := H; (try dsimp only at H); have A2 := Aside0.mk A20; clear A20
 by_cases c3 : t240 = true
 ·subst c3
  have H1 : (if a0_0 > 4 then (some (-1)) else ((spec_l7Average.f k a0_0 a0_1 0 0 a0_0).bind fun t241 => (some t241))) = some r := by rw [if_pos rfl] at H; exact H
  clear H; have H := H1; clear H1
  by_cases c4 : a0_0 > 4
  ·rw [if_pos c4] at H
   have c4b0 : decide (4 < a0_0) = true := decide_eq_true c4
   clear c4
   obtain rfl := Option.some.inj H
   go_enter Tryd.func11, Tryd.ntmps11
   go_wp2_with (first | ((with_reducible refine gate_dst (N := 1) rfl ?_); refine box_event ?hg (N := 1) ?hd (cs := #[.int .i64 a0_0, .int .i64 a0_1]) (t := 25) ?hr ?_; (case hd => rfl); (case hg => rfl); (case hr => first | (go_simp; done) | (go_simp; rfl)); intro gb239 hg w5 hbox hb; have n0_ := Aside0.mk (below_step (by repeat (first | (with_reducible first | exact HB.out | apply below_alloc | apply pw_below_drewN | apply below_drew1) | exact HB.out)) hb); have n1_ := Aside0.mk (hbox); have n2_ := Aside0.mk ((by rw [hg]; exact (below_size (by repeat (first | (with_reducible first | exact HB.out | apply below_alloc | apply pw_below_drewN | apply below_drew1) | exact HB.out))) : w.heap.size ≤ gb239)); have n3_ := Aside0.mk ((by rw [hg]; exact (below_size (by repeat (first | (with_reducible first | exact HB.out | apply below_alloc | apply pw_below_drewN | apply below_drew1) | exact HB.out))) : w.heap.size ≤ gb239)); clear HB; have HB := n0_; have BK239 := n1_; have GW239 := n2_; have GE239 := n3_; clear n0_ n1_ n2_ n3_; clear hb hbox hg; have hcz6_0 : w5.cell? ⟨gb239, 0, none⟩ = some (.int .i64 a0_0) := (blk_cell BK239.out 0).trans rfl; have hcz6_1 : w5.cell? ⟨gb239, 1, none⟩ = some (.int .i64 a0_1) := (blk_cell BK239.out 1).trans rfl; have hfz6_0 := blk_frozen BK239.out 0; have hfz6_1 := blk_frozen BK239.out 1) | ((with_reducible refine gate_callee (f := 31) rfl ?_); refine goesL_ (some 4) rfl rfl Tryd.func31 (by kernel_rfl) rfl #[.agg #[.int .i64 a0_0, .int .i64 a0_1]] rfl (by first | rfl | (simp only [List.map_toArray, List.map_cons, List.map_nil, List.length_drop, List.length_take]; rfl)) ?_; (with_reducible refine (spec_IsTable.calls a0_0 a0_1 true _ A2.out).mono ?_); rintro e w7 ⟨rfl, hb⟩; refine ⟨_, rfl, ?_⟩; have n0_ := Aside0.mk (blk_below (g := gb239) (o := .cells #[.int .i64 a0_0, .int .i64 a0_1] 25 (0, 0)) (by (with_reducible repeat (first | refine blk_drewN ?_ _ | refine blk_drew ?_ | refine blk_alloc ?_ _)); exact BK239.out) hb); have n1_ := Aside0.mk (below_step (by repeat (first | (with_reducible first | exact HB.out | apply below_alloc | apply pw_below_drewN | apply below_drew1 | refine below_set ?_ GE239.out) | exact HB.out)) hb); clear BK239; clear HB; have BK239 := n0_; have HB := n1_; clear n0_ n1_; (try clear hb); (try clear hb2); (try clear hk); (try clear hi); have hcz8_0 : w7.cell? ⟨gb239, 0, none⟩ = some (.int .i64 a0_0) := (blk_cell BK239.out 0).trans rfl; have hcz8_1 : w7.cell? ⟨gb239, 1, none⟩ = some (.int .i64 a0_1) := (blk_cell BK239.out 1).trans rfl; have hfz8_0 := blk_frozen BK239.out 0; have hfz8_1 := blk_frozen BK239.out 1))
   go_ret
   exact ⟨by first | rfl | (simp [errW_none, errW_some] <;> rfl) | (simp [*, errW_none, errW_some] <;> rfl), by repeat (first | (with_reducible first | exact HB.out | apply below_alloc | apply pw_below_drewN | apply below_drew1 | refine below_set ?_ GE239.out) | exact HB.out)⟩
  ·rw [if_neg c4] at H
   have c4b0 : decide (4 < a0_0) = false := decide_eq_false c4
   clear c4; replace H := Option.bind_eq_some_iff.mp H; obtain ⟨t241, A90, H⟩ := H
   replace H : (some t241) = some r := H
   have A9 := Aside0.mk A90; clear A90
   obtain rfl := Option.some.inj H
   go_enter Tryd.func11, Tryd.ntmps11
   go_wp2_with (first | ((with_reducible refine gate_dst (N := 1) rfl ?_); refine box_event ?hg (N := 1) ?hd (cs := #[.int .i64 a0_0, .int .i64 a0_1]) (t := 25) ?hr ?_; (case hd => rfl); (case hg => rfl); (case hr => first | (go_simp; done) | (go_simp; rfl)); intro gb239 hg w10 hbox hb; have n0_ := Aside0.mk (below_step (by repeat (first | (with_reducible first | exact HB.out | apply below_alloc | apply pw_below_drewN | apply below_drew1) | exact HB.out)) hb); have n1_ := Aside0.mk (hbox); have n2_ := Aside0.mk ((by rw [hg]; exact (below_size (by repeat (first | (with_reducible first | exact HB.out | apply below_alloc | apply pw_below_drewN | apply below_drew1) | exact HB.out))) : w.heap.size ≤ gb239)); have n3_ := Aside0.mk ((by rw [hg]; exact (below_size (by repeat (first | (with_reducible first | exact HB.out | apply below_alloc | apply pw_below_drewN | apply below_drew1) | exact HB.out))) : w.heap.size ≤ gb239)); clear HB; have HB := n0_; have BK239 := n1_; have GW239 := n2_; have GE239 := n3_; clear n0_ n1_ n2_ n3_; clear hb hbox hg; have hcz11_0 : w10.cell? ⟨gb239, 0, none⟩ = some (.int .i64 a0_0) := (blk_cell BK239.out 0).trans rfl; have hcz11_1 : w10.cell? ⟨gb239, 1, none⟩ = some (.int .i64 a0_1) := (blk_cell BK239.out 1).trans rfl; have hfz11_0 := blk_frozen BK239.out 0; have hfz11_1 := blk_frozen BK239.out 1) | ((with_reducible refine gate_callee (f := 31) rfl ?_); refine goesL_ (some 4) rfl rfl Tryd.func31 (by kernel_rfl) rfl #[.agg #[.int .i64 a0_0, .int .i64 a0_1]] rfl (by first | rfl | (simp only [List.map_toArray, List.map_cons, List.map_nil, List.length_drop, List.length_take]; rfl)) ?_; (with_reducible refine (spec_IsTable.calls a0_0 a0_1 true _ A2.out).mono ?_); rintro e w12 ⟨rfl, hb⟩; refine ⟨_, rfl, ?_⟩; have n0_ := Aside0.mk (blk_below (g := gb239) (o := .cells #[.int .i64 a0_0, .int .i64 a0_1] 25 (0, 0)) (by (with_reducible repeat (first | refine blk_drewN ?_ _ | refine blk_drew ?_ | refine blk_alloc ?_ _)); exact BK239.out) hb); have n1_ := Aside0.mk (below_step (by repeat (first | (with_reducible first | exact HB.out | apply below_alloc | apply pw_below_drewN | apply below_drew1 | refine below_set ?_ GE239.out) | exact HB.out)) hb); clear BK239; clear HB; have BK239 := n0_; have HB := n1_; clear n0_ n1_; (try clear hb); (try clear hb2); (try clear hk); (try clear hi); have hcz13_0 : w12.cell? ⟨gb239, 0, none⟩ = some (.int .i64 a0_0) := (blk_cell BK239.out 0).trans rfl; have hcz13_1 : w12.cell? ⟨gb239, 1, none⟩ = some (.int .i64 a0_1) := (blk_cell BK239.out 1).trans rfl; have hfz13_0 := blk_frozen BK239.out 0; have hfz13_1 := blk_frozen BK239.out 1) | ((with_reducible refine gate_callee (f := 36) rfl ?_); refine goesL_ (some 14) rfl rfl Tryd.func36 (by kernel_rfl) rfl #[.agg #[.int .i64 a0_0, .int .i64 a0_1], .int .i64 0, .int .i64 0, .int .i64 a0_0] rfl (by first | rfl | (simp only [List.map_toArray, List.map_cons, List.map_nil, List.length_drop, List.length_take]; rfl)) ?_; (with_reducible refine (spec_l7Average.calls k a0_0 a0_1 0 0 a0_0 t241 _ A9.out).mono ?_); rintro e w14 ⟨rfl, hb⟩; refine ⟨_, rfl, ?_⟩; have n0_ := Aside0.mk (blk_below (g := gb239) (o := .cells #[.int .i64 a0_0, .int .i64 a0_1] 25 (0, 0)) (by (with_reducible repeat (first | refine blk_drewN ?_ _ | refine blk_drew ?_ | refine blk_alloc ?_ _)); exact BK239.out) hb); have n1_ := Aside0.mk (below_step (by repeat (first | (with_reducible first | exact HB.out | apply below_alloc | apply pw_below_drewN | apply below_drew1 | refine below_set ?_ GE239.out) | exact HB.out)) hb); clear BK239; clear HB; have BK239 := n0_; have HB := n1_; clear n0_ n1_; (try clear hb); (try clear hb2); (try clear hk); (try clear hi)))
   go_ret
   exact ⟨by first | rfl | (simp [errW_none, errW_some] <;> rfl) | (simp [*, errW_none, errW_some] <;> rfl), by repeat (first | (with_reducible first | exact HB.out | apply below_alloc | apply pw_below_drewN | apply below_drew1 | refine below_set ?_ GE239.out) | exact HB.out)⟩
 ·replace c3 := Bool.eq_false_iff.mpr c3
  subst c3
  have H1 : (some (-1)) = some r := by rw [if_neg (show ¬ (false = true) by decide)] at H; exact H
  clear H; have H := H1; clear H1
  obtain rfl := Option.some.inj H
  go_enter Tryd.func11, Tryd.ntmps11
  go_wp2_with (first | ((with_reducible refine gate_dst (N := 1) rfl ?_); refine box_event ?hg (N := 1) ?hd (cs := #[.int .i64 a0_0, .int .i64 a0_1]) (t := 25) ?hr ?_; (case hd => rfl); (case hg => rfl); (case hr => first | (go_simp; done) | (go_simp; rfl)); intro gb239 hg w15 hbox hb; have n0_ := Aside0.mk (below_step (by repeat (first | (with_reducible first | exact HB.out | apply below_alloc | apply pw_below_drewN | apply below_drew1) | exact HB.out)) hb); have n1_ := Aside0.mk (hbox); have n2_ := Aside0.mk ((by rw [hg]; exact (below_size (by repeat (first | (with_reducible first | exact HB.out | apply below_alloc | apply pw_below_drewN | apply below_drew1) | exact HB.out))) : w.heap.size ≤ gb239)); have n3_ := Aside0.mk ((by rw [hg]; exact (below_size (by repeat (first | (with_reducible first | exact HB.out | apply below_alloc | apply pw_below_drewN | apply below_drew1) | exact HB.out))) : w.heap.size ≤ gb239)); clear HB; have HB := n0_; have BK239 := n1_; have GW239 := n2_; have GE239 := n3_; clear n0_ n1_ n2_ n3_; clear hb hbox hg; have hcz16_0 : w15.cell? ⟨gb239, 0, none⟩ = some (.int .i64 a0_0) := (blk_cell BK239.out 0).trans rfl; have hcz16_1 : w15.cell? ⟨gb239, 1, none⟩ = some (.int .i64 a0_1) := (blk_cell BK239.out 1).trans rfl; have hfz16_0 := blk_frozen BK239.out 0; have hfz16_1 := blk_frozen BK239.out 1) | ((with_reducible refine gate_callee (f := 31) rfl ?_); refine goesL_ (some 4) rfl rfl Tryd.func31 (by kernel_rfl) rfl #[.agg #[.int .i64 a0_0, .int .i64 a0_1]] rfl (by first | rfl | (simp only [List.map_toArray, List.map_cons, List.map_nil, List.length_drop, List.length_take]; rfl)) ?_; (with_reducible refine (spec_IsTable.calls a0_0 a0_1 false _ A2.out).mono ?_); rintro e w17 ⟨rfl, hb⟩; refine ⟨_, rfl, ?_⟩; have n0_ := Aside0.mk (blk_below (g := gb239) (o := .cells #[.int .i64 a0_0, .int .i64 a0_1] 25 (0, 0)) (by (with_reducible repeat (first | refine blk_drewN ?_ _ | refine blk_drew ?_ | refine blk_alloc ?_ _)); exact BK239.out) hb); have n1_ := Aside0.mk (below_step (by repeat (first | (with_reducible first | exact HB.out | apply below_alloc | apply pw_below_drewN | apply below_drew1 | refine below_set ?_ GE239.out) | exact HB.out)) hb); clear BK239; clear HB; have BK239 := n0_; have HB := n1_; clear n0_ n1_; (try clear hb); (try clear hb2); (try clear hk); (try clear hi)))
  go_ret
  exact ⟨by first | rfl | (simp [errW_none, errW_some] <;> rfl) | (simp [*, errW_none, errW_some] <;> rfl), by repeat (first | (with_reducible first | exact HB.out | apply below_alloc | apply pw_below_drewN | apply below_drew1 | refine below_set ?_ GE239.out) | exact HB.out)⟩
/-! ### impl_isLetter: function 74 -/
def impl_isLetter.f (a0 : Int) : Option (Bool) := if a0 ≥ 97 then (some (decide (a0 < 102))) else (some false)
theorem impl_isLetter.calls (a0 : Int) (r : Bool) (w : World) (h : impl_isLetter.f a0 = some r) :
  Calls Tryd.prog 74 #[.int .u8 a0] w fun e w' => e = .returned (.bool r) ∧ Drawn0 w w' := by
 have H : (if a0 ≥ 97 then (some (decide (a0 < 102))) else (some false)) = some r := h
 clear h
 by_cases c2 : a0 ≥ 97
 ·rw [if_pos c2] at H
  have c2b0 : decide (97 ≤ a0) = true := decide_eq_true c2
  clear c2
  obtain rfl := Option.some.inj H
  go_enter Tryd.func74, Tryd.ntmps74
  go_wp2
  go_ret
  exact ⟨by first | rfl | (simp; done) | (simp [*]; done), by repeat (first | exact Drawn0.refl _ | apply Drawn0.step)⟩
 ·rw [if_neg c2] at H
  have c2b0 : decide (97 ≤ a0) = false := decide_eq_false c2
  clear c2
  obtain rfl := Option.some.inj H
  go_enter Tryd.func74, Tryd.ntmps74
  go_wp2
  go_ret
  exact ⟨by first | rfl | (simp; done) | (simp [*]; done), by repeat (first | exact Drawn0.refl _ | apply Drawn0.step)⟩
end Go.Proofs.YtkmicbnbclkkkaaDoor.Print
namespace Go.Proofs.YtkmicbnbclkkkaaDoor.Print
open Go.RowKit Go.Proofs.YtkmicbnbclkkkaaDoorW.PrintWords Go.Proofs.YtkmicbnbclkkkaaDoorW.PrintLast Go.Proofs.YtkmicbnbclkkkaaDoorW.PrintMore
attribute [local go_sem] max2_int min2_int max_two min_two max_three min_three max_four min_four   -- for this text's walks alone
set_option linter.unusedVariables false
set_option linter.unusedSimpArgs false
/-! ### impl_readTree: function 61 -/
open Go.Proofs.YtkmicbnbclkkkaaDoor.M
/-- a tree lies in memory, its nodes in blocks from base on -/
def impl_readTree.Lies (base : Nat) (w : World) : Td → Value → Prop
 | .nil, v => v = .pointer none
 | .node c l r, v => ∃ b vl vr, base ≤ b ∧ v = .pointer (some ⟨b, 0, none⟩) ∧ w.cell? ⟨b, 0, none⟩ = some (.int .u8 c) ∧ w.cell? ⟨b, 1, none⟩ = some vl ∧ w.cell? ⟨b, 2, none⟩ = some vr ∧ impl_readTree.Lies base w l vl ∧ impl_readTree.Lies base w r vr
theorem impl_readTree.Lies.below {base : Nat} {w w' : World} (hb : Below w.heap.size w w') : ∀ {T : Td} {v : Value}, impl_readTree.Lies base w T v → impl_readTree.Lies base w' T v
 | .nil, v, h => h
 | .node c l r, v, h => by
  obtain ⟨b, vl, vr, h0, h1, h2, h3, h4, h5, h6⟩ := h
  have hlt : b < w.heap.size := World.block_lt_of_cell? w ⟨b, 0, none⟩ h2
  exact ⟨b, vl, vr, h0, h1, (hb.cell (p := ⟨b, 0, none⟩) hlt).trans h2, (hb.cell (p := ⟨b, 1, none⟩) hlt).trans h3, (hb.cell (p := ⟨b, 2, none⟩) hlt).trans h4, impl_readTree.Lies.below hb h5, impl_readTree.Lies.below hb h6⟩
theorem impl_readTree.Lies.mono {base base' : Nat} {w : World} (hb : base' ≤ base) : ∀ {T : Td} {v : Value}, impl_readTree.Lies base w T v → impl_readTree.Lies base' w T v
 | .nil, v, h => h
 | .node c l r, v, h => by
  obtain ⟨b, vl, vr, h0, h1, h2, h3, h4, h5, h6⟩ := h
  exact ⟨b, vl, vr, by omega, h1, h2, h3, h4, impl_readTree.Lies.mono hb h5, impl_readTree.Lies.mono hb h6⟩
theorem impl_readTree.Lies.far {base g : Nat} {w : World} (hg : g < base) (j : Nat) (x : Value) : ∀ {T : Td} {v : Value}, impl_readTree.Lies base w T v → impl_readTree.Lies base (w.setCell ⟨g, j, none⟩ x) T v
 | .nil, v, h => h
 | .node c l r, v, h => by
  obtain ⟨b, vl, vr, h0, h1, h2, h3, h4, h5, h6⟩ := h
  have hne : ∀ k, (w.setCell ⟨g, j, none⟩ x).cell? ⟨b, k, none⟩ = w.cell? ⟨b, k, none⟩ := fun k => by
   have := Below.heap_setCell w ⟨g, j, none⟩ x b (by show b ≠ g; omega)
   simp only [World.cell?, this]
  exact ⟨b, vl, vr, h0, h1, (hne 0).trans h2, (hne 1).trans h3, (hne 2).trans h4, impl_readTree.Lies.far hg j x h5, impl_readTree.Lies.far hg j x h6⟩
theorem impl_readTree.Lies.fine {base a : Nat} {w : World} {T : Td} {v : Value} (hT : Dt a T) (h : impl_readTree.Lies base w T v) : ∃ b, v = .pointer (some ⟨b, 0, none⟩) := by
 obtain ⟨_, _, _, rfl⟩ := hT.ne
 obtain ⟨b, _, _, _, h1, _⟩ := h; exact ⟨b, h1⟩
/-- what the call gives back -/
def impl_readTree.Out (S : ByteArray) (w : World) (p : Option (Td × Nat)) (e : Ending) (w' : World) : Prop :=
 (match p with
 | none => e = .returned (.tuple #[.pointer none, .string ⟨#[]⟩])
 | some (T, j) => ∃ v, e = .returned (.tuple #[v, .string (S.extract j S.size)]) ∧ impl_readTree.Lies w.heap.size w' T v) ∧ Below w.heap.size w w'
theorem impl_readTree.vari (b : Nat) (c : Int) (w : World) (hc : 97 ≤ c ∧ c < 102) (h : w.cell? ⟨b, 0, none⟩ = some (.int .u8 c)) : Calls Tryd.prog 62 #[.pointer (some ⟨b, 0, none⟩)] w fun e w' => e = .returned (.int .i64 (c - 97)) ∧ Drawn0 w w' := by
 have e : (c - 97) % 256 = c - 97 := by omega
 have e2 : wrap64 (c - 97) = c - 97 := w64 (by omega) (by omega)
 clear hc
 go_enter Tryd.func62, Tryd.ntmps62
 go_wp2_with (fail)
 go_ret
 exact ⟨rfl, Drawn0.refl _⟩
set_option maxHeartbeats 4000000 in
theorem impl_readTree.call (S : ByteArray) (hS : S.size ≤ 1000000000) : ∀ k i a w, a < 32 → fre a < k → i ≤ S.size → Calls Tryd.prog 61 #[.string (S.extract i S.size), .int .i64 (a : Int)] w (impl_readTree.Out S w (tp S k i a)) := by
 intro k
 induction k with
 | zero => intro i a w _ h; omega
 | succ k ih =>
  intro i a w ha hk hi
  by_cases h0 : S.size ≤ i
  ·have hz : S.extract i S.size = ⟨#[]⟩ := by
    apply ByteArray.ext; apply Array.eq_empty_of_size_eq_zero
    show (S.extract i S.size).size = 0
    simp [ByteArray.size_extract]; omega
   rw [hz, tp, if_pos h0]
   clear hk hi hS hz h0 ih ha
   go_enter Tryd.func61, Tryd.ntmps61
   go_wp2_with (fail)
   go_ret2
   exact ⟨rfl, Below.refl _ _⟩
  ·have hlt : i < S.size := by omega
   have hb := bt_extract hlt
   have hx := extract_extract (S := S) 1 (show i + 1 ≤ S.size by omega)
   have hsz : (S.extract i S.size).size = S.size - i := by simp [ByteArray.size_extract]
   rw [tp, if_neg h0]
   obtain ⟨s, hs⟩ : ∃ s, s = S.extract i S.size := ⟨_, rfl⟩
   obtain ⟨t, ht⟩ : ∃ t, t = S.extract (i + 1) S.size := ⟨_, rfl⟩
   obtain ⟨c, hc⟩ : ∃ c, c = bt S i := ⟨_, rfl⟩
   rw [← ht] at hx
   rw [← hs] at hb hsz hx ⊢
   rw [← hc] at hb ⊢
   have hp : 0 < s.size := by omega
   rw [← hsz] at hx
   have hne : s.toList.isEmpty = false := by
    rw [List.isEmpty_eq_false_iff]
    intro e
    have h := congrArg List.length e
    rw [toList_len] at h
    simp only [List.length_nil] at h; omega
   have hbt : ((s[0]'hp).toNat : Int) = c := by
    have h := bt_at s 0 (by simpa using hp)
    rw [hb] at h; simpa using h
   have HT := Aside0.mk ht
   have HR : ∀ nd, Aside0 (((w.alloc (.cells #[.int .u8 c, .pointer none, .pointer none] 84)).drewN nd).heap[w.heap.size]? = some (.cells #[.int .u8 c, .pointer none, .pointer none] 84 (0, 0))) := fun nd => ⟨by simpa using blk_new w (.cells #[.int .u8 c, .pointer none, .pointer none] 84)⟩
   have HB : ∀ nd, Aside0 (Below w.heap.size w ((w.alloc (.cells #[.int .u8 c, .pointer none, .pointer none] 84)).drewN nd)) := fun nd => ⟨pw_below_drewN ((Below.refl _ _).alloc (Nat.le_refl _) _) nd⟩
   have HZ : ∀ nd, Aside0 (((w.alloc (.cells #[.int .u8 c, .pointer none, .pointer none] 84)).drewN nd).heap.size = w.heap.size + 1) := fun nd => ⟨by simp⟩
   by_cases h1 : c = 48 ∨ c = 49
   ·rw [if_pos h1]
    have fin : ∀ nd, impl_readTree.Out S w (some (.node c .nil .nil, i + 1)) (.returned (.tuple #[.pointer (some ⟨w.heap.size, 0, none⟩), .string t])) ((w.alloc (.cells #[.int .u8 c, .pointer none, .pointer none] 84)).drewN nd) := fun nd => by
     rw [HT.out]
     exact ⟨⟨_, rfl, ⟨w.heap.size, .pointer none, .pointer none, Nat.le_refl _, rfl, blk_cell (HR nd).out 0, blk_cell (HR nd).out 1, blk_cell (HR nd).out 2, rfl, rfl⟩⟩, (HB nd).out⟩
    have FIN := Aside0.mk fin; clear fin ih hk hi h0 hlt hsz hs ht hc hb ha
    rcases h1 with rfl | rfl
    all_goals
     go_enter Tryd.func61, Tryd.ntmps61
     go_wp2_with (fail)
     go_ret2
     exact FIN.out 0
   ·rw [if_neg h1]
    have n1 : (c == 48) = false := beq_eq_false_iff_ne.mpr (fun e => h1 (.inl e))
    have n2 : (c == 49) = false := beq_eq_false_iff_ne.mpr (fun e => h1 (.inr e))
    by_cases h2 : 97 ≤ c ∧ c < 102
    ·rw [if_neg (fun e => e h2)]
     have A1 : Aside0 (impl_isLetter.f c = some true) := ⟨by unfold impl_isLetter.f; rw [if_pos (by omega), decide_eq_true (by omega)]⟩
     have AV := Aside0.mk (fun W (hb : Below w.heap.size w W) (h : W.heap[w.heap.size]? = some (.cells #[.int .u8 c, .pointer none, .pointer none] 84 (0, 0))) => impl_readTree.vari w.heap.size c W h2 (blk_cell h 0))
     obtain ⟨v, hv⟩ : ∃ v : Nat, c - 97 = (v : Int) := ⟨(c - 97).toNat, by omega⟩
     have hv5 : v < 5 := by omega
     have evr : vr c = v := by unfold vr; omega
     rw [hv] at AV
     rw [evr]
     have ht2 : (Go.bits .and .i64 ((a : Int) / 2 ^ v) 1 == 1) = a.testBit v := by
      have h := bit_nat (a := a) (n := v) (by omega) (by omega)
      rw [shr_nat (by omega)] at h
      have e : ((a / 2 ^ v : Nat) : Int) = (a : Int) / 2 ^ v := by push_cast; rfl
      rw [e] at h
      rw [h]; cases a.testBit v <;> rfl
     have hw2 : Go.bits .or .i64 (a : Int) (wrap64 (2 ^ v)) = ((wth a v : Nat) : Int) := by
      have h := shl_one (n := v) (by omega)
      have e : shl .i64 1 (v : Int) = wrap64 (2 ^ v) := by unfold shl; rw [min_bits (by omega), Int.one_mul, i64_w]
      have hlt : 2 ^ v < 2 ^ 63 := Nat.pow_lt_pow_right (by decide) (by omega)
      rw [← e, h, or_nat (by omega) hlt]; rfl
     have hv64 : v ≤ 64 := by omega
     cases h3 : a.testBit v with
     | true =>
      rw [if_pos rfl]
      rw [h3] at ht2
      clear ih hk hi h0 hlt hsz hs ht hc hb h1 h2 h3 hw2
      go_enter Tryd.func61, Tryd.ntmps61
      go_wp2_with (first | (go_at_call 74; (with_reducible refine (impl_isLetter.calls _ true _ A1.out).mono ?_); rintro e w' ⟨rfl, ⟨nd, rfl⟩⟩) | (go_at_call 62; (with_reducible refine (AV.out _ ?s1 ?s2).mono ?_); (case s1 => exact (HB _).out); (case s2 => exact (HR _).out); rintro e w' ⟨rfl, ⟨nd2, rfl⟩⟩))
      go_ret2
      exact ⟨rfl, (HB _).out⟩
     | false =>
      rw [if_neg (by decide)]
      rw [h3] at ht2
      obtain ⟨w1', w2', _⟩ := wth_fre a ha v hv5 h3
      have IH := Aside0.mk (fun W => ih (i + 1) (wth a v) W w2' (by omega) (by omega))
      have IH2 := Aside0.mk (fun j W (h : j ≤ S.size) => ih j (wth a v) W w2' (by omega) h)
      rw [← ht] at IH
      have TS := Aside0.mk (fun (j : Nat) (T : Td) (m : Nat) (h : tp S k j (wth a v) = some (T, m)) => tp_some w2' h)
      generalize wth a v = a2 at *
      clear ih hk hi h0 hlt hsz hs ht hc hb h1 h2 h3 w1' w2' ha
      have C1n : tp S k (i + 1) a2 = none → Aside0 (∀ W, Calls Tryd.prog 61 #[.string t, .int .i64 (a2 : Int)] W fun e W' => e = .returned (.tuple #[.pointer none, .string ⟨#[]⟩]) ∧ Below W.heap.size W W') := fun hq => ⟨fun W => by have h := IH.out W; rw [hq] at h; exact h⟩
      have C1s : ∀ T j, tp S k (i + 1) a2 = some (T, j) → Aside0 (∀ W, Calls Tryd.prog 61 #[.string t, .int .i64 (a2 : Int)] W fun e W' => ∃ b, e = .returned (.tuple #[.pointer (some ⟨b, 0, none⟩), .string (S.extract j S.size)]) ∧ impl_readTree.Lies W.heap.size W' T (.pointer (some ⟨b, 0, none⟩)) ∧ Below W.heap.size W W') := fun T j hq => ⟨fun W => (IH.out W).mono (by
       rw [hq]; rintro e W' ⟨⟨v, he, hl⟩, hb⟩
       obtain ⟨b, rfl⟩ := hl.fine (TS.out _ _ _ hq).1
       exact ⟨b, he, hl, hb⟩)⟩
      have C2n : ∀ j, j ≤ S.size → tp S k j a2 = none → Aside0 (∀ W, Calls Tryd.prog 61 #[.string (S.extract j S.size), .int .i64 (a2 : Int)] W fun e W' => e = .returned (.tuple #[.pointer none, .string ⟨#[]⟩]) ∧ Below W.heap.size W W') := fun j h2 hq => ⟨fun W => by have h := IH2.out j W h2; rw [hq] at h; exact h⟩
      have C2s : ∀ j, j ≤ S.size → ∀ T m, tp S k j a2 = some (T, m) → Aside0 (∀ W, Calls Tryd.prog 61 #[.string (S.extract j S.size), .int .i64 (a2 : Int)] W fun e W' => ∃ b, e = .returned (.tuple #[.pointer (some ⟨b, 0, none⟩), .string (S.extract m S.size)]) ∧ impl_readTree.Lies W.heap.size W' T (.pointer (some ⟨b, 0, none⟩)) ∧ Below W.heap.size W W') := fun j h2 T m hq => ⟨fun W => (IH2.out j W h2).mono (by
       rw [hq]; rintro e W' ⟨⟨v, he, hl⟩, hb⟩
       obtain ⟨b, rfl⟩ := hl.fine (TS.out _ _ _ hq).1
       exact ⟨b, he, hl, hb⟩)⟩
      cases hq : tp S k (i + 1) a2 with
      | none =>
       have C1 := C1n hq
       rw [Option.bind_none]
       clear C1n C1s C2n C2s hq IH IH2 TS
       go_enter Tryd.func61, Tryd.ntmps61
       go_wp2_with (first | (go_at_call 74; (with_reducible refine (impl_isLetter.calls _ true _ A1.out).mono ?_); rintro e w' ⟨rfl, ⟨nd, rfl⟩⟩) | (go_at_call 62; (with_reducible refine (AV.out _ ?s1 ?s2).mono ?_); (case s1 => exact (HB _).out); (case s2 => exact (HR _).out); rintro e w' ⟨rfl, ⟨nd2, rfl⟩⟩) | (go_at_call 61; (with_reducible refine (C1.out _).mono ?_); rintro e w1 ⟨rfl, hb1⟩; have RB := Aside0.mk (blk_below (HR _).out hb1); have BB := Aside0.mk ((HB _).out.trans (hb1.mono (HB _).out.size)); clear hb1; have r0 : w1.cell? ⟨w.heap.size, 0, none⟩ = some (.int .u8 c) := blk_cell RB.out 0; have r1 : w1.cell? ⟨w.heap.size, 1, none⟩ = some (.pointer none) := blk_cell RB.out 1; have r2 : w1.cell? ⟨w.heap.size, 2, none⟩ = some (.pointer none) := blk_cell RB.out 2; have z1 := blk_frozen RB.out 1; have z2 := blk_frozen RB.out 2))
       go_ret2
       exact ⟨rfl, BB.out.setCell (p := ⟨w.heap.size, 1, none⟩) (Nat.le_refl _) _⟩
      | some p =>
       obtain ⟨T, j⟩ := p
       obtain ⟨f1, f2, f3, f4⟩ := TS.out _ _ _ hq
       have C1 := C1s T j hq
       rw [Option.bind_some]
       simp only []
       cases hq2 : tp S k j a2 with
       | none =>
        have C2 := C2n j f3 hq2
        rw [Option.bind_none]
        obtain ⟨t2, ht2'⟩ : ∃ t2, t2 = S.extract j S.size := ⟨_, rfl⟩
        rw [← ht2'] at C1 C2
        clear C1n C1s C2n C2s hq hq2 IH IH2 TS f1 f2 f3 f4 ht2'
        go_enter Tryd.func61, Tryd.ntmps61
        go_wp2_with (first | (go_at_call 74; (with_reducible refine (impl_isLetter.calls _ true _ A1.out).mono ?_); rintro e w' ⟨rfl, ⟨nd, rfl⟩⟩) | (go_at_call 62; (with_reducible refine (AV.out _ ?s1 ?s2).mono ?_); (case s1 => exact (HB _).out); (case s2 => exact (HR _).out); rintro e w' ⟨rfl, ⟨nd2, rfl⟩⟩) | (go_at_call 61; (with_reducible refine (C1.out _).mono ?_); rintro e w1 ⟨b1, rfl, hl1, hb1⟩; have L1 : Aside0 (impl_readTree.Lies (w.heap.size + 1) w1 T (.pointer (some ⟨b1, 0, none⟩))) := ⟨by rw [(HZ _).out] at hl1; exact hl1⟩; have RB := Aside0.mk (blk_below (HR _).out hb1); have BB := Aside0.mk ((HB _).out.trans (hb1.mono (HB _).out.size)); clear hb1 hl1; have r0 : w1.cell? ⟨w.heap.size, 0, none⟩ = some (.int .u8 c) := blk_cell RB.out 0; have r1 : w1.cell? ⟨w.heap.size, 1, none⟩ = some (.pointer none) := blk_cell RB.out 1; have r2 : w1.cell? ⟨w.heap.size, 2, none⟩ = some (.pointer none) := blk_cell RB.out 2; have z1 := blk_frozen RB.out 1; have z2 := blk_frozen RB.out 2) | (go_at_call 61; (with_reducible refine (C2.out _).mono ?_); rintro e w2 ⟨rfl, hb2⟩; have RC : Aside0 ((w1.setCell ⟨w.heap.size, 1, none⟩ (.pointer (some ⟨b1, 0, none⟩))).heap[w.heap.size]? = some (.cells #[.int .u8 c, .pointer (some ⟨b1, 0, none⟩), .pointer none] 84 (0, 0))) := ⟨by simpa using blk_set RB.out 1 (.pointer (some ⟨b1, 0, none⟩))⟩; have BC := Aside0.mk (BB.out.setCell (p := ⟨w.heap.size, 1, none⟩) (Nat.le_refl _) (.pointer (some ⟨b1, 0, none⟩))); have RD := Aside0.mk (blk_below RC.out hb2); have BD := Aside0.mk (BC.out.trans (hb2.mono BC.out.size)); have L2 := Aside0.mk (((L1.out.far (g := w.heap.size) (by omega) 1 (.pointer (some ⟨b1, 0, none⟩)))).below hb2); clear hb2; have s0 : w2.cell? ⟨w.heap.size, 0, none⟩ = some (.int .u8 c) := blk_cell RD.out 0; have s1 : w2.cell? ⟨w.heap.size, 1, none⟩ = some (.pointer (some ⟨b1, 0, none⟩)) := blk_cell RD.out 1; have s2 : w2.cell? ⟨w.heap.size, 2, none⟩ = some (.pointer none) := blk_cell RD.out 2; have y1 := blk_frozen RD.out 1; have y2 := blk_frozen RD.out 2; clear r0 r1 r2 z1 z2))
        go_ret2
        exact ⟨rfl, BD.out.setCell (p := ⟨w.heap.size, 2, none⟩) (Nat.le_refl _) _⟩
       | some q =>
        obtain ⟨T2, m⟩ := q
        have C2 := C2s j f3 T2 m hq2
        rw [Option.bind_some]
        obtain ⟨t2, ht2'⟩ : ∃ t2, t2 = S.extract j S.size := ⟨_, rfl⟩
        rw [← ht2'] at C1 C2
        obtain ⟨t3, ht3⟩ : ∃ t3, t3 = S.extract m S.size := ⟨_, rfl⟩
        rw [← ht3] at C2
        have HT3 := Aside0.mk ht3; clear C1n C1s C2n C2s hq hq2 IH IH2 TS f1 f2 f3 f4 ht2' ht3
        go_enter Tryd.func61, Tryd.ntmps61
        go_wp2_with (first | (go_at_call 74; (with_reducible refine (impl_isLetter.calls _ true _ A1.out).mono ?_); rintro e w' ⟨rfl, ⟨nd, rfl⟩⟩) | (go_at_call 62; (with_reducible refine (AV.out _ ?s1 ?s2).mono ?_); (case s1 => exact (HB _).out); (case s2 => exact (HR _).out); rintro e w' ⟨rfl, ⟨nd2, rfl⟩⟩) | (go_at_call 61; (with_reducible refine (C1.out _).mono ?_); rintro e w1 ⟨b1, rfl, hl1, hb1⟩; have L1 : Aside0 (impl_readTree.Lies (w.heap.size + 1) w1 T (.pointer (some ⟨b1, 0, none⟩))) := ⟨by rw [(HZ _).out] at hl1; exact hl1⟩; have RB := Aside0.mk (blk_below (HR _).out hb1); have BB := Aside0.mk ((HB _).out.trans (hb1.mono (HB _).out.size)); clear hb1 hl1; have r0 : w1.cell? ⟨w.heap.size, 0, none⟩ = some (.int .u8 c) := blk_cell RB.out 0; have r1 : w1.cell? ⟨w.heap.size, 1, none⟩ = some (.pointer none) := blk_cell RB.out 1; have r2 : w1.cell? ⟨w.heap.size, 2, none⟩ = some (.pointer none) := blk_cell RB.out 2; have z1 := blk_frozen RB.out 1; have z2 := blk_frozen RB.out 2) | (go_at_call 61; (with_reducible refine (C2.out _).mono ?_); rintro e w2 ⟨b2, rfl, hl2, hb2⟩; have RC : Aside0 ((w1.setCell ⟨w.heap.size, 1, none⟩ (.pointer (some ⟨b1, 0, none⟩))).heap[w.heap.size]? = some (.cells #[.int .u8 c, .pointer (some ⟨b1, 0, none⟩), .pointer none] 84 (0, 0))) := ⟨by simpa using blk_set RB.out 1 (.pointer (some ⟨b1, 0, none⟩))⟩; have BC := Aside0.mk (BB.out.setCell (p := ⟨w.heap.size, 1, none⟩) (Nat.le_refl _) (.pointer (some ⟨b1, 0, none⟩))); have RD := Aside0.mk (blk_below RC.out hb2); have BD := Aside0.mk (BC.out.trans (hb2.mono BC.out.size)); have L2 := Aside0.mk (((L1.out.far (g := w.heap.size) (by omega) 1 (.pointer (some ⟨b1, 0, none⟩)))).below hb2); have L3 : Aside0 (impl_readTree.Lies (w.heap.size + 1) w2 T2 (.pointer (some ⟨b2, 0, none⟩))) := ⟨hl2.mono (by have h := blk_lt RC.out; omega)⟩; clear hb2 hl2; have s0 : w2.cell? ⟨w.heap.size, 0, none⟩ = some (.int .u8 c) := blk_cell RD.out 0; have s1 : w2.cell? ⟨w.heap.size, 1, none⟩ = some (.pointer (some ⟨b1, 0, none⟩)) := blk_cell RD.out 1; have s2 : w2.cell? ⟨w.heap.size, 2, none⟩ = some (.pointer none) := blk_cell RD.out 2; have y1 := blk_frozen RD.out 1; have y2 := blk_frozen RD.out 2; clear r0 r1 r2 z1 z2))
        go_ret2
        have RE := blk_set RD.out 2 (.pointer (some ⟨b2, 0, none⟩))
        refine ⟨⟨.pointer (some ⟨w.heap.size, 0, none⟩), (by rw [← HT3.out]; try rfl), ⟨w.heap.size, .pointer (some ⟨b1, 0, none⟩), .pointer (some ⟨b2, 0, none⟩), Nat.le_refl _, rfl, by simpa using blk_cell RE 0, by simpa using blk_cell RE 1, by simpa using blk_cell RE 2, ?_, ?_⟩⟩, BD.out.setCell (p := ⟨w.heap.size, 2, none⟩) (Nat.le_refl _) _⟩
        ·exact (L2.out.far (g := w.heap.size) (by omega) 2 _).mono (by omega)
        ·exact (L3.out.far (g := w.heap.size) (by omega) 2 _).mono (by omega)
    ·rw [if_pos h2]
     have A1 : Aside0 (impl_isLetter.f c = some false) := ⟨by
      unfold impl_isLetter.f
      by_cases h3 : c ≥ 97
      ·rw [if_pos h3, decide_eq_false (by omega)]
      ·rw [if_neg h3]⟩
     clear ih hk hi h0 hlt hsz hs ht hc hb ha h1 h2
     go_enter Tryd.func61, Tryd.ntmps61
     go_wp2_with (first | (go_at_call 74; (with_reducible refine (impl_isLetter.calls _ false _ A1.out).mono ?_); rintro e w' ⟨rfl, ⟨nd, rfl⟩⟩))
     go_ret2
     exact ⟨rfl, (HB _).out⟩
end Go.Proofs.YtkmicbnbclkkkaaDoor.Print
namespace Go.Proofs.YtkmicbnbclkkkaaDoor.Print
open Go.RowKit Go.Proofs.YtkmicbnbclkkkaaDoorW.PrintWords Go.Proofs.YtkmicbnbclkkkaaDoorW.PrintLast Go.Proofs.YtkmicbnbclkkkaaDoorW.PrintMore
attribute [local go_sem] max2_int min2_int max_two min_two max_three min_three max_four min_four   -- for this text's walks alone
set_option linter.unusedVariables false
set_option linter.unusedSimpArgs false
/-! ### impl_wholeTree: function 38 -/
open Go.Proofs.YtkmicbnbclkkkaaDoor.M
set_option maxHeartbeats 11000000 in
theorem impl_wholeTree.call (S : ByteArray) (hS : S.size ≤ 1000000000) (w : World) : Calls Tryd.prog 38 #[.string S] w fun e w' =>
  (match treeOf S with
  | some T => ∃ b, e = .returned (.tuple #[.pointer (some ⟨b, 0, none⟩), .bool true]) ∧ impl_readTree.Lies w.heap.size w' T (.pointer (some ⟨b, 0, none⟩))
  | none => ∃ p : Option Addr, e = .returned (.tuple #[.pointer p, .bool false])) ∧ Below w.heap.size w w' := by
 have hz : S.extract 0 S.size = S := by simp
 have HC := Aside0.mk (fun W => impl_readTree.call S hS 6 0 0 W (by decide) (by decide) (by omega))
 rw [hz] at HC
 unfold treeOf
 cases hq : tp S 6 0 0 with
 | none =>
  have C1 : Aside0 (∀ W, Calls Tryd.prog 61 #[.string S, .int .i64 0] W fun e W' => e = .returned (.tuple #[.pointer none, .string ⟨#[]⟩]) ∧ Below W.heap.size W W') := ⟨fun W => by have h := HC.out W; rw [hq] at h; exact h⟩
  rw [Option.bind_none]
  clear HC hq hS hz
  go_enter Tryd.func38, Tryd.ntmps38
  go_wp2_with (first | (go_at_call 61; (with_reducible refine (C1.out _).mono ?_); rintro e w1 ⟨rfl, hb1⟩))
  go_ret2
  exact ⟨⟨_, rfl⟩, hb1⟩
 | some p =>
  obtain ⟨T, j⟩ := p
  obtain ⟨f1, f2, f3, f4⟩ := tp_some (by decide) hq
  obtain ⟨t, ht⟩ : ∃ t, t = S.extract j S.size := ⟨_, rfl⟩
  have C1 : Aside0 (∀ W, Calls Tryd.prog 61 #[.string S, .int .i64 0] W fun e W' => ∃ b, e = .returned (.tuple #[.pointer (some ⟨b, 0, none⟩), .string t]) ∧ impl_readTree.Lies W.heap.size W' T (.pointer (some ⟨b, 0, none⟩)) ∧ Below W.heap.size W W') := ⟨fun W => (HC.out W).mono (by
    rw [hq]; rintro e W' ⟨⟨v, he, hl⟩, hb⟩
    obtain ⟨b, rfl⟩ := hl.fine f1
    rw [← ht] at he
    exact ⟨b, he, hl, hb⟩)⟩
  rw [Option.bind_some]
  simp only []
  have hl : t.toList.length = S.size - j := by rw [toList_len, ht]; simp [ByteArray.size_extract]
  by_cases hj : j = S.size
  ·rw [if_pos hj]
   have hne : t.toList.isEmpty = true := by
    rw [List.isEmpty_iff]
    exact List.eq_nil_of_length_eq_zero (by omega)
   clear HC hq hS hz ht hl hj f1 f2 f3 f4
   go_enter Tryd.func38, Tryd.ntmps38
   go_wp2_with (first | (go_at_call 61; (with_reducible refine (C1.out _).mono ?_); rintro e w1 ⟨b1, rfl, hl1, hb1⟩; have L1 := Aside0.mk hl1; clear hl1))
   go_ret2
   exact ⟨⟨b1, rfl, L1.out⟩, hb1⟩
  ·rw [if_neg hj]
   have hne : t.toList.isEmpty = false := by
    rw [List.isEmpty_eq_false_iff]
    intro e
    rw [e] at hl
    simp at hl; omega
   clear HC hq hS hz ht hl hj f1 f2 f3 f4
   go_enter Tryd.func38, Tryd.ntmps38
   go_wp2_with (first | (go_at_call 61; (with_reducible refine (C1.out _).mono ?_); rintro e w1 ⟨b1, rfl, hl1, hb1⟩; have L1 := Aside0.mk hl1; clear hl1))
   go_ret2
   exact ⟨⟨_, rfl⟩, hb1⟩
end Go.Proofs.YtkmicbnbclkkkaaDoor.Print
namespace Go.Proofs.YtkmicbnbclkkkaaDoor.Print
open Go.RowKit Go.Proofs.YtkmicbnbclkkkaaDoorW.PrintWords Go.Proofs.YtkmicbnbclkkkaaDoorW.PrintLast Go.Proofs.YtkmicbnbclkkkaaDoorW.PrintMore
attribute [local go_sem] max2_int min2_int max_two min_two max_three min_three max_four min_four   -- for this text's walks alone
set_option linter.unusedVariables false
set_option linter.unusedSimpArgs false
/-! ### impl_tree_within: function 58 -/
open Go.Proofs.YtkmicbnbclkkkaaDoor.M
set_option maxHeartbeats 1600000 in
theorem impl_tree_within.call (n : Nat) {a : Nat} {T : Td} (hT : Dt a T) : ∀ (base : Nat) (w : World) (b : Nat), impl_readTree.Lies base w T (.pointer (some ⟨b, 0, none⟩)) → Calls Tryd.prog 58 #[.pointer (some ⟨b, 0, none⟩), .int .i64 (n : Int)] w fun e w' => e = .returned (.bool (T.within n)) ∧ Drawn0 w w' := by
 induction hT with
 | leaf a c _ =>
  intro base w b hl; obtain ⟨b', vl, vr, h0, h1, h2, h3, h4, h5, h6⟩ := hl
  obtain rfl : b = b' := by injection h1 with h1; injection h1 with h1; injection h1
  obtain rfl : vl = .pointer none := h5
  clear h0 h1 h2 h4 h6
  show Calls _ _ _ _ fun e w' => e = .returned (.bool true) ∧ _
  go_enter Tryd.func58, Tryd.ntmps58
  go_wp2_with (fail)
  go_ret
  exact ⟨rfl, by repeat (first | exact Drawn0.refl _ | apply Drawn0.step)⟩
 | ask a c l r hc hv hF hF2 ih ih2 =>
  intro base w b hl
  rw [within_ask n c r hF]
  obtain ⟨b', vl, vr', h0, h1, h2, h3, h4, h5, h6⟩ := hl
  obtain rfl : b = b' := by injection h1 with h1; injection h1 with h1; injection h1
  obtain ⟨b1, rfl⟩ := h5.fine hF
  obtain ⟨b2, rfl⟩ := h6.fine hF2
  obtain ⟨V, hV⟩ : ∃ V : Int, c - 97 = V := ⟨_, rfl⟩
  have AV := Aside0.mk (impl_readTree.vari b c w hc h2)
  rw [hV] at AV
  have C1 := Aside0.mk (fun nd => ih base (w.drewN nd) b1 (h5.below (pw_below_drewN (Below.refl _ _) nd)))
  have C2 := Aside0.mk (fun nd => ih2 base (w.drewN nd) b2 (h6.below (pw_below_drewN (Below.refl _ _) nd)))
  have hd : decide (vr c < n) = decide (V < (n : Int)) := decide_eq_decide.mpr (by unfold vr; omega)
  rw [hd]
  clear ih ih2 h0 h1 h5 h6 hc hv hF hF2 hd hV
  by_cases hlt : V < (n : Int)
  ·rw [decide_eq_true hlt]
   generalize l.within n = p at *
   generalize r.within n = q at *
   cases p <;> cases q
   all_goals
    go_enter Tryd.func58, Tryd.ntmps58
    go_wp2_with (first | (go_at_call 62; (with_reducible refine AV.out.mono ?_); rintro e w' ⟨rfl, ⟨nd, rfl⟩⟩) | (go_at_call 58; (with_reducible first | refine (C1.out _).mono ?_ | refine (C2.out _).mono ?_); rintro e w' ⟨rfl, ⟨nd2, rfl⟩⟩; try simp only [World.drewN_drewN]))
    go_ret
    exact ⟨rfl, by first | exact ⟨_, rfl⟩ | exact ⟨_, by simp only [World.drewN_drewN]⟩⟩
  ·rw [decide_eq_false hlt, Bool.false_and]
   go_enter Tryd.func58, Tryd.ntmps58
   go_wp2_with (first | (go_at_call 62; (with_reducible refine AV.out.mono ?_); rintro e w' ⟨rfl, ⟨nd, rfl⟩⟩))
   go_ret
   exact ⟨rfl, by first | exact ⟨_, rfl⟩ | exact ⟨_, by simp only [World.drewN_drewN]⟩⟩
end Go.Proofs.YtkmicbnbclkkkaaDoor.Print
namespace Go.Proofs.YtkmicbnbclkkkaaDoor.Print
open Go.RowKit Go.Proofs.YtkmicbnbclkkkaaDoorW.PrintWords Go.Proofs.YtkmicbnbclkkkaaDoorW.PrintLast Go.Proofs.YtkmicbnbclkkkaaDoorW.PrintMore
attribute [local go_sem] max2_int min2_int max_two min_two max_three min_three max_four min_four   -- for this text's walks alone
set_option linter.unusedVariables false
set_option linter.unusedSimpArgs false
/-! ### impl_makeTable: function 59 -/
open Go.Proofs.YtkmicbnbclkkkaaDoor.M
/-- what a round of makeTable's loop finds -/
def impl_makeTable.I (w : World) (N : Nat) (g : Nat → Bool) (x : Nat) (W : World) : Prop :=
 W.heap[w.heap.size]? = some (.cells #[.int .i64 0, .int .i64 0] 25 (0, 0)) ∧ W.heap[w.heap.size + 1]? = some (.cells #[.int .i64 (N : Int), .int .i64 ((prefW g x : Nat) : Int)] 25 (0, 0)) ∧ Below w.heap.size w W
theorem impl_makeTable.I.start (w : World) (N : Nat) (g : Nat → Bool) : impl_makeTable.I w N g 0 ((w.alloc (.cells #[.int .i64 0, .int .i64 0] 25)).alloc (.cells #[.int .i64 (N : Int), .int .i64 0] 25)) := by
 refine ⟨blk_alloc (blk_new w _) _, ?_, ((Below.refl _ _).alloc (Nat.le_refl _) _).alloc (by simp) _⟩
 have := blk_new (w.alloc (.cells #[.int .i64 0, .int .i64 0] 25)) (.cells #[.int .i64 (N : Int), .int .i64 0] 25)
 simpa [prefW] using this
theorem impl_makeTable.I.call {w : World} {N : Nat} {g : Nat → Bool} {x : Nat} {W W' : World} (h : impl_makeTable.I w N g x W) (hb : Below W.heap.size W W') : impl_makeTable.I w N g x W' :=
 ⟨blk_below h.1 hb, blk_below h.2.1 hb, h.2.2.trans (hb.mono h.2.2.size)⟩
theorem impl_makeTable.I.skip {w : World} {N : Nat} {g : Nat → Bool} {x : Nat} {W : World} (h : impl_makeTable.I w N g x W) (hg : g x = false) : impl_makeTable.I w N g (x + 1) W := by
 unfold impl_makeTable.I; rw [prefW_skip hg]; exact h
theorem impl_makeTable.I.set {w : World} {N : Nat} {g : Nat → Bool} {x : Nat} {W : World} (h : impl_makeTable.I w N g x W) (hg : g x = true) (hx : x ≤ 61) {u : Int} (hu : u = Go.bits .or .i64 ((prefW g x : Nat) : Int) (shl .i64 1 (x : Int))) :
  impl_makeTable.I w N g (x + 1) (W.setCell ⟨w.heap.size + 1, 1, none⟩ (.int .i64 u)) := by
 rw [prefW_step_one hx hg] at hu
 subst hu
 exact ⟨blk_far h.1 (by show w.heap.size ≠ w.heap.size + 1; omega) _, by simpa using blk_set h.2.1 1 (.int .i64 ((prefW g (x + 1) : Nat) : Int)), h.2.2.setCell (by show w.heap.size ≤ w.heap.size + 1; omega) _⟩
theorem impl_makeTable.I.drew {w : World} {N : Nat} {g : Nat → Bool} {x : Nat} {W : World} (h : impl_makeTable.I w N g x W) : impl_makeTable.I w N g x W.drew := ⟨h.1, h.2.1, h.2.2.drew⟩
end Go.Proofs.YtkmicbnbclkkkaaDoor.Print
namespace Go.Proofs.YtkmicbnbclkkkaaDoor.Print
open Go.RowKit Go.Proofs.YtkmicbnbclkkkaaDoorW.PrintWords Go.Proofs.YtkmicbnbclkkkaaDoorW.PrintLast Go.Proofs.YtkmicbnbclkkkaaDoorW.PrintMore
attribute [local go_sem] max2_int min2_int max_two min_two max_three min_three max_four min_four   -- for this text's walks alone
set_option linter.unusedVariables false
set_option linter.unusedSimpArgs false
/-! ### impl_tree_ask: function 41 -/
open Go.Proofs.YtkmicbnbclkkkaaDoor.M
set_option maxHeartbeats 2000000 in
theorem impl_tree_ask.call {T : Td} (hT : Dt 0 T) (x : Nat) (hx : x < 32) (base : Nat) (w : World) (b : Nat) (hl : impl_readTree.Lies base w T (.pointer (some ⟨b, 0, none⟩))) :
  Calls Tryd.prog 41 #[.pointer (some ⟨b, 0, none⟩), .int .i64 (x : Int)] w fun e w' => e = .returned (.tuple #[.int .i64 (T.val x), .int .i64 ((T.path x : Nat) : Int)]) ∧ Drawn0 w w' := by
 have hd := hT.depth_le (by decide)
 have hp := hT.path_le x
 have hf := fre_le 0
 obtain ⟨R, hR⟩ : ∃ R, R = T.val x := ⟨_, rfl⟩
 obtain ⟨M, hM⟩ : ∃ M, M = T.path x := ⟨_, rfl⟩
 have hMn : M ≤ 5 := by omega
 rw [← hR, ← hM]
 have HT : Aside0 ((∃ a, Dt a T) ∧ T.depth ≤ T.depth ∧ T.val x = R ∧ 0 + T.path x = M) := ⟨⟨0, hT⟩, Nat.le_refl _, hR.symm, by omega⟩
 have HL : ∀ nd, Aside0 (impl_readTree.Lies base (w.drewN nd) T (.pointer (some ⟨b, 0, none⟩)) ∧ Drawn0 w (w.drewN nd)) := fun nd => ⟨hl.below (pw_below_drewN (Below.refl _ _) nd), ⟨nd, rfl⟩⟩
 have HL0 : Aside0 (impl_readTree.Lies base w T (.pointer (some ⟨b, 0, none⟩)) ∧ Drawn0 w w) := ⟨hl, Drawn0.refl _⟩
 clear hd hp hf hT hl hR hM
 go_enter Tryd.func41, Tryd.ntmps41
 go_wp2_with (fail)
 go_loopg [0, 6] T.depth (fun gg v0 v6 wr => ∃ (T' : Td) (p : Nat) (m : Nat), v0 = .pointer (some ⟨p, 0, none⟩) ∧ v6 = .int .i64 (m : Int) ∧ Aside0 ((∃ a, Dt a T') ∧ T'.depth ≤ gg ∧ T'.val x = R ∧ m + T'.path x = M) ∧ Aside0 (impl_readTree.Lies base wr T' (.pointer (some ⟨p, 0, none⟩)) ∧ Drawn0 w wr))
 case atStart => exact ⟨T, b, 0, rfl, rfl, HT, by first | exact HL0 | exact HL _⟩
 case round =>
  clear HL HL0 HT; obtain ⟨T', p, m, rfl, rfl, HF, HL⟩ := hrel; obtain ⟨⟨a, hF⟩, hg, hr, hm⟩ := HF.out; obtain ⟨hl, hB⟩ := HL.out; clear HF HL
  cases hF with
  | leaf _ c hc =>
   obtain ⟨b', vl, vr', h0, h1, h2, h3, h4, h5, h6⟩ := hl
   obtain rfl : p = b' := by injection h1 with h1; injection h1 with h1; injection h1
   obtain rfl : vl = .pointer none := h5
   have HBB := Aside0.mk hB
   have hr' : c - 48 = R := hr
   obtain rfl : m = M := by have : Td.path x (.node c .nil .nil) = 0 := rfl; omega
   clear h0 h1 h4 h6 hB hg hr hm
   rcases hc with rfl | rfl
   all_goals
    subst hr'
    go_wp2
    go_ret2
    exact ⟨rfl, HBB.out⟩
  | ask _ c l r hc hv hFl hFr =>
   obtain ⟨b', vl, vr', h0, h1, h2, h3, h4, h5, h6⟩ := hl
   obtain rfl : p = b' := by injection h1 with h1; injection h1 with h1; injection h1
   obtain ⟨b1, rfl⟩ := h5.fine hFl
   obtain ⟨b2, rfl⟩ := h6.fine hFr
   rw [depth_ask c r hFl] at hg
   rw [val_ask x c r hFl] at hr
   rw [path_ask x c r hFl] at hm
   obtain ⟨v, hv2⟩ : ∃ v : Nat, c - 97 = (v : Int) := ⟨(c - 97).toNat, by omega⟩
   have evr : vr c = v := by unfold vr; omega
   have hv5 : v < 5 := by omega
   rw [evr] at hr hm
   have AV := Aside0.mk (fun W (h : W.cell? ⟨p, 0, none⟩ = some (.int .u8 c)) => impl_readTree.vari p c W hc h)
   rw [hv2] at AV
   have hbit := bit_nat (a := x) (n := v) (by omega) (by omega)
   have hsh := shr_nat (a := x) (n := v) (by omega)
   have hsh2 : shr .i64 (x : Int) (v : Int) = (x : Int) / 2 ^ v := by rw [hsh]; push_cast; rfl
   rw [hsh2] at hbit
   have hv64 : v ≤ 64 := by omega
   clear hsh hsh2
   cases hq : x.testBit v with
   | true =>
    rw [hq, if_pos rfl] at hm hr
    have hb1 : (Go.bits .and .i64 ((x : Int) / 2 ^ v) 1 == 0) = false := by rw [hbit, hq]; rfl
    have e6 := Aside0.mk (show Value.int .i64 (wrap64 ((m : Int) + 1)) = .int .i64 ((m + 1 : Nat) : Int) from by rw [up1 (by omega)])
    have HN : Aside0 ((∃ a, Dt a r) ∧ r.depth ≤ gk - 1 ∧ r.val x = R ∧ (m + 1) + r.path x = M) := ⟨⟨_, hFr⟩, by omega, hr, by omega⟩
    have HL : ∀ nd, Aside0 (impl_readTree.Lies base (wr.drewN nd) r (.pointer (some ⟨b2, 0, none⟩)) ∧ Drawn0 w (wr.drewN nd)) := fun nd => ⟨h6.below (pw_below_drewN (Below.refl _ _) nd), hB.step nd⟩
    have hk1 : gk - 1 < gk := by omega
    clear hFl hFr h0 h1 h5 h6 hB hr hm hbit hq hv hc hv2 evr hg
    go_wp2_with (first | (go_at_call 62; (with_reducible refine (AV.out _ (by assumption)).mono ?_); rintro e w' ⟨rfl, ⟨nd, rfl⟩⟩))
    go_roundg (gk - 1)
    case measure => exact hk1
    case rel => exact ⟨r, b2, m + 1, rfl, e6.out, HN, HL _⟩
   | false =>
    rw [hq, if_neg (by decide)] at hm hr
    have hb1 : (Go.bits .and .i64 ((x : Int) / 2 ^ v) 1 == 0) = true := by rw [hbit, hq]; rfl
    have e6 := Aside0.mk (show Value.int .i64 (wrap64 ((m : Int) + 1)) = .int .i64 ((m + 1 : Nat) : Int) from by rw [up1 (by omega)])
    have HN : Aside0 ((∃ a, Dt a l) ∧ l.depth ≤ gk - 1 ∧ l.val x = R ∧ (m + 1) + l.path x = M) := ⟨⟨_, hFl⟩, by omega, hr, by omega⟩
    have HL : ∀ nd, Aside0 (impl_readTree.Lies base (wr.drewN nd) l (.pointer (some ⟨b1, 0, none⟩)) ∧ Drawn0 w (wr.drewN nd)) := fun nd => ⟨h5.below (pw_below_drewN (Below.refl _ _) nd), hB.step nd⟩
    have hk1 : gk - 1 < gk := by omega
    clear hFl hFr h0 h1 h5 h6 hB hr hm hbit hq hv hc hv2 evr hg
    go_wp2_with (first | (go_at_call 62; (with_reducible refine (AV.out _ (by assumption)).mono ?_); rintro e w' ⟨rfl, ⟨nd, rfl⟩⟩))
    go_roundg (gk - 1)
    case measure => exact hk1
    case rel => exact ⟨l, b1, m + 1, rfl, e6.out, HN, HL _⟩
end Go.Proofs.YtkmicbnbclkkkaaDoor.Print
namespace Go.Proofs.YtkmicbnbclkkkaaDoor.Print
open Go.RowKit Go.Proofs.YtkmicbnbclkkkaaDoorW.PrintWords Go.Proofs.YtkmicbnbclkkkaaDoorW.PrintLast Go.Proofs.YtkmicbnbclkkkaaDoorW.PrintMore
attribute [local go_sem] max2_int min2_int max_two min_two max_three min_three max_four min_four   -- for this text's walks alone
set_option linter.unusedVariables false
set_option linter.unusedSimpArgs false
set_option maxRecDepth 100000
/-! ### impl_treeOf: function 37 -/
open Go.Proofs.YtkmicbnbclkkkaaDoor.M
set_option maxHeartbeats 1600000 in
theorem impl_treeOf.clo {T : Td} (hT : Dt 0 T) (x : Nat) (hx : x < 32) (base b I : Nat) (w : World) (hI : w.cell? ⟨I, 0, none⟩ = some (.pointer (some ⟨b, 0, none⟩))) (hl : impl_readTree.Lies base w T (.pointer (some ⟨b, 0, none⟩))) :
  Calls Tryd.prog 60 #[.int .i64 (x : Int), .pointer (some ⟨I, 0, none⟩)] w fun e w' => e = .returned (.bool (T.val x == 1)) ∧ Below w.heap.size w w' := by
 have HC := Aside0.mk (fun nd => impl_tree_ask.call hT x hx base (w.drewN nd) b (hl.below (pw_below_drewN (Below.refl _ _) nd)))
 have HC0 := Aside0.mk (impl_tree_ask.call hT x hx base w b hl)
 generalize T.val x = R at *
 generalize ((T.path x : Nat) : Int) = M at *
 clear hl hT hx
 go_enter Tryd.func60, Tryd.ntmps60
 go_wp2_with (first | (go_at_call 41; (with_reducible first | refine HC0.out.mono ?_ | refine (HC.out _).mono ?_); rintro e w1 ⟨rfl, ⟨nd, rfl⟩⟩))
 go_ret
 exact ⟨rfl, by repeat (first | exact Below.refl _ _ | apply pw_below_drewN)⟩
set_option maxHeartbeats 1600000 in
theorem impl_treeOf.aux (N M : Nat) (hN : N ≤ 5) (hM : M ≤ 32) (e10 : wrap64 ((2 : Int) ^ N) = (M : Int)) (g : Nat → Bool) (I : Nat) (w : World)
  (hc : ∀ (x : Nat) (W : World), x < M → Below w.heap.size w W → Calls Tryd.prog 60 #[.int .i64 (x : Int), .pointer (some ⟨I, 0, none⟩)] W fun e W' => e = .returned (.bool (g x)) ∧ Below W.heap.size W W') :
  Calls Tryd.prog 59 #[.int .i64 (N : Int), .func (.func 60) #[] #[.pointer (some ⟨I, 0, none⟩)]] w fun e w' => e = .returned (.agg #[.int .i64 (N : Int), .int .i64 ((prefW g M : Nat) : Int)]) ∧ Below w.heap.size w w' := by
 have huT := Tryd.underlying25
 have hH := Aside0.mk hc; clear hc
 have hS := Aside0.mk (impl_makeTable.I.start w N g)
 go_enter Tryd.func59, Tryd.ntmps59
 go_wp2
 rw [e10]
 clear e10
 go_loopw [11] (fun v11 wr => ∃ x : Nat, x ≤ M ∧ v11 = .int .i64 (x : Int) ∧ Aside0 (impl_makeTable.I w N g x wr)) (fun v11 _ => M - (intOf v11).toNat)
 case atStart => exact ⟨0, Nat.zero_le _, rfl, hS⟩
 case round =>
  obtain ⟨x, hx, rfl, HI⟩ := hrel; clear hS
  have c0 : wr.cell? ⟨w.heap.size, 0, none⟩ = some (.int .i64 0) := blk_cell HI.out.1 0
  have c1 : wr.cell? ⟨w.heap.size, 1, none⟩ = some (.int .i64 0) := blk_cell HI.out.1 1
  have z0 := blk_frozen HI.out.1 0
  have z1 := blk_frozen HI.out.1 1
  have d0 : wr.cell? ⟨w.heap.size + 1, 0, none⟩ = some (.int .i64 (N : Int)) := blk_cell HI.out.2.1 0
  have d1 : wr.cell? ⟨w.heap.size + 1, 1, none⟩ = some (.int .i64 ((prefW g x : Nat) : Int)) := blk_cell HI.out.2.1 1
  by_cases hlt : x < M
  ·have hC := Aside0.mk (hH.out x wr hlt HI.out.2.2)
   cases hg : g x with
   | false =>
    rw [hg] at hC
    have HG := Aside0.mk hg; clear hg
    go_wp2_with (first | (go_at_call 60; (with_reducible refine hC.out.mono ?_); rintro e w1 ⟨rfl, hb⟩))
    go_roundw
    case rel => exact ⟨x + 1, by omega, by go_num, ⟨(HI.out.call hb).skip HG.out⟩⟩
    case measure => simp [intOf]; omega
   | true =>
    rw [hg] at hC
    have HG := Aside0.mk hg; clear hg
    go_wp2_with (first | (go_at_call 60; (with_reducible refine hC.out.mono ?_); rintro e w1 ⟨rfl, hb⟩))
    have HI1 := Aside0.mk (HI.out.call hb)
    have d1' : w1.cell? ⟨w.heap.size + 1, 1, none⟩ = some (.int .i64 ((prefW g x : Nat) : Int)) := blk_cell HI1.out.2.1 1
    have z1' : w1.frozen? ⟨w.heap.size + 1, 1, none⟩ = false := blk_frozen HI1.out.2.1 1
    clear c0 c1 z0 z1 d0 d1
    go_region
    all_goals
     go_wp2
     go_roundw
     case rel =>
      refine ⟨x + 1, by omega, by go_num, ?_⟩
      ·exact ⟨(HI1.out.set HG.out (by omega) (by rw [show shl .i64 1 (x : Int) = wrap64 (2 ^ x) from by unfold shl; rw [min_bits (by omega), Int.one_mul, i64_w]])).drew⟩
     case measure => simp [intOf]; omega
  ·obtain rfl : x = M := by omega
   go_wp2
   exact bodyPost_ret (v := .agg #[.int .i64 (N : Int), .int .i64 ((prefW g x : Nat) : Int)]) (by simp [results, Tryd.results59, go_sem, c0, c1, d0, d1]) rfl ⟨rfl, (HI.out.2.2.setCell (p := ⟨w.heap.size, 0, none⟩) (Nat.le_refl _) _).setCell (p := ⟨w.heap.size, 1, none⟩) (Nat.le_refl _) _⟩
theorem impl_treeOf.mk {T : Td} (hT : Dt 0 T) (n base b I : Nat) (hn : n ≤ 5) (w : World) (hI : w.cell? ⟨I, 0, none⟩ = some (.pointer (some ⟨b, 0, none⟩))) (hl : impl_readTree.Lies base w T (.pointer (some ⟨b, 0, none⟩))) :
  Calls Tryd.prog 59 #[.int .i64 (n : Int), .func (.func 60) #[] #[.pointer (some ⟨I, 0, none⟩)]] w fun e w' => e = .returned (.agg #[.int .i64 (n : Int), .int .i64 ((T.word n : Nat) : Int)]) ∧ Below w.heap.size w w' := by
 have h16 : 2 ^ n ≤ 32 := pow_le_5 hn
 have e10 : wrap64 ((2 : Int) ^ n) = ((2 ^ n : Nat) : Int) := by
  have : ((2 : Int) ^ n) = ((2 ^ n : Nat) : Int) := by push_cast; rfl
  rw [this]
  obtain ⟨P, hP⟩ : ∃ P, P = 2 ^ n := ⟨_, rfl⟩
  rw [← hP] at h16 ⊢
  exact w64 (by omega) (by omega)
 have lI := World.block_lt_of_cell? w ⟨I, 0, none⟩ hI
 exact impl_treeOf.aux n (2 ^ n) (by omega) (by omega) e10 (fun x => T.val x == 1) I w (fun x W hx hb' => impl_treeOf.clo hT x (by omega) base b I W ((hb'.cell (p := ⟨I, 0, none⟩) lI).trans hI) (hl.below hb'))
set_option maxHeartbeats 1600000 in
/-- no tree -/
theorem impl_treeOf.bad1 (S : ByteArray) (n : Int) (w : World)
  (hC : ∀ W, Calls Tryd.prog 38 #[.string S] W fun e W' => (∃ p : Option Addr, e = .returned (.tuple #[.pointer p, .bool false])) ∧ Below W.heap.size W W') :
  Calls Tryd.prog 37 #[.string S, .int .i64 n] w fun e w' => e = .returned (.tuple #[.pointer none, .agg #[.int .i64 0, .int .i64 0], .bool false]) ∧ Below w.heap.size w w' := by
 have huT := Tryd.underlying25
 have HB : Aside0 (Below w.heap.size w (w.alloc (.cells #[.int .i64 0, .int .i64 0] 25))) := ⟨(Below.refl _ _).alloc (Nat.le_refl _) _⟩
 have HR : Aside0 ((w.alloc (.cells #[.int .i64 0, .int .i64 0] 25)).heap[w.heap.size]? = some (.cells #[.int .i64 0, .int .i64 0] 25 (0, 0))) := ⟨blk_new w _⟩
 have C1 := Aside0.mk hC; clear hC
 go_enter Tryd.func37, Tryd.ntmps37
 go_wp2_with (first | (go_at_call 38; (with_reducible refine (C1.out _).mono ?_); rintro e w1 ⟨⟨p1, rfl⟩, hb1⟩; have RB := Aside0.mk (blk_below HR.out hb1); have BB := Aside0.mk (HB.out.trans (hb1.mono HB.out.size)); clear hb1; have BA := Aside0.mk (BB.out.alloc BB.out.size (.cells #[.pointer p1] 51)); have RA := Aside0.mk (blk_alloc RB.out (.cells #[.pointer p1] 51)); have r0 : (w1.alloc (.cells #[.pointer p1] 51)).cell? ⟨w.heap.size, 0, none⟩ = some (.int .i64 0) := blk_cell RA.out 0; have r1 : (w1.alloc (.cells #[.pointer p1] 51)).cell? ⟨w.heap.size, 1, none⟩ = some (.int .i64 0) := blk_cell RA.out 1; have z0 := blk_frozen RA.out 0; have z1 := blk_frozen RA.out 1))
 exact bodyPost_ret (v := .tuple #[.pointer none, .agg #[.int .i64 0, .int .i64 0], .bool false]) (by simp [results, Tryd.results37, go_sem, r0, r1]) rfl ⟨rfl, (by repeat (first | exact BA.out | apply pw_below_drewN | (refine Below.setCell (p := ⟨w.heap.size, _, none⟩) ?_ (Nat.le_refl _) _; show Below w.heap.size w _)))⟩
set_option maxHeartbeats 1600000 in
/-- too many variables -/
theorem impl_treeOf.bad2 (S : ByteArray) (n : Int) (w : World) (T : Td) (h1 : impl_isBits.f n = some false)
  (hC : ∀ W, Calls Tryd.prog 38 #[.string S] W fun e W' => (∃ b, e = .returned (.tuple #[.pointer (some ⟨b, 0, none⟩), .bool true]) ∧ impl_readTree.Lies W.heap.size W' T (.pointer (some ⟨b, 0, none⟩))) ∧ Below W.heap.size W W') :
  Calls Tryd.prog 37 #[.string S, .int .i64 n] w fun e w' => e = .returned (.tuple #[.pointer none, .agg #[.int .i64 0, .int .i64 0], .bool false]) ∧ Below w.heap.size w w' := by
 have huT := Tryd.underlying25
 have HB : Aside0 (Below w.heap.size w (w.alloc (.cells #[.int .i64 0, .int .i64 0] 25))) := ⟨(Below.refl _ _).alloc (Nat.le_refl _) _⟩
 have HR : Aside0 ((w.alloc (.cells #[.int .i64 0, .int .i64 0] 25)).heap[w.heap.size]? = some (.cells #[.int .i64 0, .int .i64 0] 25 (0, 0))) := ⟨blk_new w _⟩
 have C1 := Aside0.mk hC; have A1 := Aside0.mk h1; clear hC h1
 go_enter Tryd.func37, Tryd.ntmps37
 go_wp2_with (first | (go_at_call 38; (with_reducible refine (C1.out _).mono ?_); rintro e w1 ⟨⟨b1, rfl, hl1⟩, hb1⟩; have L0 := Aside0.mk hl1; clear hl1; have RB := Aside0.mk (blk_below HR.out hb1); have BB := Aside0.mk (HB.out.trans (hb1.mono HB.out.size)); clear hb1; have BA := Aside0.mk (BB.out.alloc BB.out.size (.cells #[.pointer (some ⟨b1, 0, none⟩)] 51)); have RA := Aside0.mk (blk_alloc RB.out (.cells #[.pointer (some ⟨b1, 0, none⟩)] 51)); have r0 : (w1.alloc (.cells #[.pointer (some ⟨b1, 0, none⟩)] 51)).cell? ⟨w.heap.size, 0, none⟩ = some (.int .i64 0) := blk_cell RA.out 0; have r1 : (w1.alloc (.cells #[.pointer (some ⟨b1, 0, none⟩)] 51)).cell? ⟨w.heap.size, 1, none⟩ = some (.int .i64 0) := blk_cell RA.out 1; have z0 := blk_frozen RA.out 0; have z1 := blk_frozen RA.out 1; have L1 := Aside0.mk (L0.out.below ((Below.refl _ _).alloc (Nat.le_refl _) (.cells #[.pointer (some ⟨b1, 0, none⟩)] 51)))) | (go_at_call 57; (with_reducible refine (impl_isBits.calls _ _ _ A1.out).mono ?_); rintro e w' ⟨rfl, ⟨nd, rfl⟩⟩))
 exact bodyPost_ret (v := .tuple #[.pointer none, .agg #[.int .i64 0, .int .i64 0], .bool false]) (by simp [results, Tryd.results37, go_sem, r0, r1]) rfl ⟨rfl, (by repeat (first | exact BA.out | apply pw_below_drewN | (refine Below.setCell (p := ⟨w.heap.size, _, none⟩) ?_ (Nat.le_refl _) _; show Below w.heap.size w _)))⟩
set_option maxHeartbeats 1600000 in
/-- a letter that is no variable -/
theorem impl_treeOf.bad3 (S : ByteArray) (n : Int) (w : World) (T : Td) (h1 : impl_isBits.f n = some true)
  (h2 : ∀ W b, impl_readTree.Lies (w.heap.size + 1) W T (.pointer (some ⟨b, 0, none⟩)) → Calls Tryd.prog 58 #[.pointer (some ⟨b, 0, none⟩), .int .i64 n] W fun e w' => e = .returned (.bool false) ∧ Drawn0 W w')
  (hC : ∀ W, Calls Tryd.prog 38 #[.string S] W fun e W' => (∃ b, e = .returned (.tuple #[.pointer (some ⟨b, 0, none⟩), .bool true]) ∧ impl_readTree.Lies W.heap.size W' T (.pointer (some ⟨b, 0, none⟩))) ∧ Below W.heap.size W W') :
  Calls Tryd.prog 37 #[.string S, .int .i64 n] w fun e w' => e = .returned (.tuple #[.pointer none, .agg #[.int .i64 0, .int .i64 0], .bool false]) ∧ Below w.heap.size w w' := by
 have huT := Tryd.underlying25
 have HB : Aside0 (Below w.heap.size w (w.alloc (.cells #[.int .i64 0, .int .i64 0] 25))) := ⟨(Below.refl _ _).alloc (Nat.le_refl _) _⟩
 have HR : Aside0 ((w.alloc (.cells #[.int .i64 0, .int .i64 0] 25)).heap[w.heap.size]? = some (.cells #[.int .i64 0, .int .i64 0] 25 (0, 0))) := ⟨blk_new w _⟩
 have C1 := Aside0.mk hC; have A1 := Aside0.mk h1; have A2 := Aside0.mk h2
 have HZ : Aside0 ((w.alloc (.cells #[.int .i64 0, .int .i64 0] 25)).heap.size = w.heap.size + 1) := ⟨by simp⟩
 clear hC h1 h2
 go_enter Tryd.func37, Tryd.ntmps37
 go_wp2_with (first | (go_at_call 38; (with_reducible refine (C1.out _).mono ?_); rintro e w1 ⟨⟨b1, rfl, hl1⟩, hb1⟩; have L0 := Aside0.mk (hl1.mono (Nat.le_of_eq HZ.out.symm)); clear hl1; have RB := Aside0.mk (blk_below HR.out hb1); have BB := Aside0.mk (HB.out.trans (hb1.mono HB.out.size)); clear hb1; have BA := Aside0.mk (BB.out.alloc BB.out.size (.cells #[.pointer (some ⟨b1, 0, none⟩)] 51)); have RA := Aside0.mk (blk_alloc RB.out (.cells #[.pointer (some ⟨b1, 0, none⟩)] 51)); have r0 : (w1.alloc (.cells #[.pointer (some ⟨b1, 0, none⟩)] 51)).cell? ⟨w.heap.size, 0, none⟩ = some (.int .i64 0) := blk_cell RA.out 0; have r1 : (w1.alloc (.cells #[.pointer (some ⟨b1, 0, none⟩)] 51)).cell? ⟨w.heap.size, 1, none⟩ = some (.int .i64 0) := blk_cell RA.out 1; have z0 := blk_frozen RA.out 0; have z1 := blk_frozen RA.out 1; have L1 := Aside0.mk (L0.out.below ((Below.refl _ _).alloc (Nat.le_refl _) (.cells #[.pointer (some ⟨b1, 0, none⟩)] 51)))) | (go_at_call 57; (with_reducible refine (impl_isBits.calls _ _ _ A1.out).mono ?_); rintro e w' ⟨rfl, ⟨nd, rfl⟩⟩) | (go_at_call 58; (with_reducible refine (A2.out _ _ (L1.out.below (pw_below_drewN (Below.refl _ _) _))).mono ?_); rintro e w' ⟨rfl, ⟨nd2, rfl⟩⟩; try simp only [World.drewN_drewN]))
 exact bodyPost_ret (v := .tuple #[.pointer none, .agg #[.int .i64 0, .int .i64 0], .bool false]) (by simp [results, Tryd.results37, go_sem, r0, r1]) rfl ⟨rfl, (by repeat (first | exact BA.out | apply pw_below_drewN | (refine Below.setCell (p := ⟨w.heap.size, _, none⟩) ?_ (Nat.le_refl _) _; show Below w.heap.size w _)))⟩
/-- while the table is made: the box of the tree, and the tree -/
def impl_treeOf.rS (w : World) (I : Nat) (T : Td) (b : Nat) (W : World) : Prop := W.cell? ⟨I, 0, none⟩ = some (.pointer (some ⟨b, 0, none⟩)) ∧ w.heap.size < I ∧ impl_readTree.Lies (w.heap.size + 1) W T (.pointer (some ⟨b, 0, none⟩)) ∧ Below w.heap.size w W
theorem impl_treeOf.rS.all {w : World} {I : Nat} {T : Td} {b : Nat} {W : World} (h : impl_treeOf.rS w I T b W) : W.cell? ⟨I, 0, none⟩ = some (.pointer (some ⟨b, 0, none⟩)) ∧ impl_treeOf.rS w I T b W := ⟨h.1, h⟩
theorem impl_treeOf.rS.below {w : World} {I : Nat} {T : Td} {b : Nat} {W W' : World} (h : impl_treeOf.rS w I T b W) (hb : Below W.heap.size W W') : impl_treeOf.rS w I T b W' :=
 ⟨(hb.cell (p := ⟨I, 0, none⟩) (World.block_lt_of_cell? W ⟨I, 0, none⟩ h.1)).trans h.1, h.2.1, h.2.2.1.below hb, h.2.2.2.trans (hb.mono h.2.2.2.size)⟩
theorem impl_treeOf.rS.set {w : World} {I : Nat} {T : Td} {b : Nat} {W : World} (h : impl_treeOf.rS w I T b W) (j : Nat) (v : Value) : impl_treeOf.rS w I T b (W.setCell ⟨w.heap.size, j, none⟩ v) :=
 ⟨by have h2 := h.2.1; rw [World.cell?_setCell_other _ _ _ _ (by intro e; injection e with e; omega)]; exact h.1, h.2.1, h.2.2.1.far (by omega) j v, h.2.2.2.setCell (p := ⟨w.heap.size, j, none⟩) (Nat.le_refl _) v⟩
set_option maxHeartbeats 1600000 in
theorem impl_treeOf.good (S : ByteArray) (n : Nat) (w : World) (T : Td) (hT : Dt 0 T) (hn : n ≤ 5) (h1 : impl_isBits.f (n : Int) = some true)
  (h2 : ∀ W b, impl_readTree.Lies (w.heap.size + 1) W T (.pointer (some ⟨b, 0, none⟩)) → Calls Tryd.prog 58 #[.pointer (some ⟨b, 0, none⟩), .int .i64 (n : Int)] W fun e w' => e = .returned (.bool true) ∧ Drawn0 W w')
  (hC : ∀ W, Calls Tryd.prog 38 #[.string S] W fun e W' => (∃ b, e = .returned (.tuple #[.pointer (some ⟨b, 0, none⟩), .bool true]) ∧ impl_readTree.Lies W.heap.size W' T (.pointer (some ⟨b, 0, none⟩))) ∧ Below W.heap.size W W') :
  Calls Tryd.prog 37 #[.string S, .int .i64 (n : Int)] w fun e w' => (∃ b, e = .returned (.tuple #[.pointer (some ⟨b, 0, none⟩), .agg #[.int .i64 (n : Int), .int .i64 ((T.word n : Nat) : Int)], .bool true]) ∧ impl_readTree.Lies w.heap.size w' T (.pointer (some ⟨b, 0, none⟩))) ∧ Below w.heap.size w w' := by
 have huT := Tryd.underlying25
 have HB : Aside0 (Below w.heap.size w (w.alloc (.cells #[.int .i64 0, .int .i64 0] 25))) := ⟨(Below.refl _ _).alloc (Nat.le_refl _) _⟩
 have HR : Aside0 ((w.alloc (.cells #[.int .i64 0, .int .i64 0] 25)).heap[w.heap.size]? = some (.cells #[.int .i64 0, .int .i64 0] 25 (0, 0))) := ⟨blk_new w _⟩
 have C1 := Aside0.mk hC; have A1 := Aside0.mk h1; have A2 := Aside0.mk h2
 have HZ : Aside0 ((w.alloc (.cells #[.int .i64 0, .int .i64 0] 25)).heap.size = w.heap.size + 1) := ⟨by simp⟩
 have A3 := Aside0.mk (fun b I W hI hl => impl_treeOf.mk hT n (w.heap.size + 1) b I hn W hI hl)
 generalize ((T.word n : Nat) : Int) = q at *
 clear hC h1 h2 hT hn
 go_enter Tryd.func37, Tryd.ntmps37
 go_wp2_with (first | (go_at_call 38; (with_reducible refine (C1.out _).mono ?_); rintro e w1 ⟨⟨b1, rfl, hl1⟩, hb1⟩; have L0 := Aside0.mk (hl1.mono (Nat.le_of_eq HZ.out.symm)); clear hl1; have RB := Aside0.mk (blk_below HR.out hb1); have BB := Aside0.mk (HB.out.trans (hb1.mono HB.out.size)); clear hb1; have BA := Aside0.mk (BB.out.alloc BB.out.size (.cells #[.pointer (some ⟨b1, 0, none⟩)] 51)); have RA := Aside0.mk (blk_alloc RB.out (.cells #[.pointer (some ⟨b1, 0, none⟩)] 51)); have r0 : (w1.alloc (.cells #[.pointer (some ⟨b1, 0, none⟩)] 51)).cell? ⟨w.heap.size, 0, none⟩ = some (.int .i64 0) := blk_cell RA.out 0; have r1 : (w1.alloc (.cells #[.pointer (some ⟨b1, 0, none⟩)] 51)).cell? ⟨w.heap.size, 1, none⟩ = some (.int .i64 0) := blk_cell RA.out 1; have z0 := blk_frozen RA.out 0; have z1 := blk_frozen RA.out 1; have L1 := Aside0.mk (L0.out.below ((Below.refl _ _).alloc (Nat.le_refl _) (.cells #[.pointer (some ⟨b1, 0, none⟩)] 51)))) | (go_at_call 57; (with_reducible refine (impl_isBits.calls _ _ _ A1.out).mono ?_); rintro e w' ⟨rfl, ⟨nd, rfl⟩⟩) | (go_at_call 58; (with_reducible refine (A2.out _ _ (L1.out.below (pw_below_drewN (Below.refl _ _) _))).mono ?_); rintro e w' ⟨rfl, ⟨nd2, rfl⟩⟩; try simp only [World.drewN_drewN]))
 generalize hV : World.drewN _ _ = V
 have HS : Aside0 (impl_treeOf.rS w w1.heap.size T b1 V.drew) := ⟨by
  rw [← hV]
  refine impl_treeOf.rS.below (W := w1.alloc (.cells #[.pointer (some ⟨b1, 0, none⟩)] 51)) ⟨by go_simp, blk_lt RB.out, L1.out, BA.out⟩ ?_
  exact (pw_below_drewN (Below.refl _ _) _).drew⟩
 have RV : Aside0 (V.drew.heap[w.heap.size]? = some (.cells #[.int .i64 0, .int .i64 0] 25 (0, 0))) := ⟨by rw [← hV]; simpa using RA.out⟩
 clear hV r0 r1 z0 z1 L1 BA RA
 have HS1 := Aside0.mk HS.out.1
 have HS2 := Aside0.mk HS.out.2.2.1
 have h1 := HS.out.all
 go_region_held3 (fun W => W.cell? ⟨w1.heap.size, 0, none⟩ = some (.pointer (some ⟨b1, 0, none⟩)) ∧ impl_treeOf.rS w w1.heap.size T b1 W) (first | exact h1 | assumption | exact (impl_treeOf.rS.below HS.out (by assumption)).all | exact ((impl_treeOf.rS.below HS.out (by assumption)).set _ _).all | exact (((impl_treeOf.rS.below HS.out (by assumption)).set _ _).set _ _).all) (first | (go_at_call 59; (with_reducible refine (A3.out b1 w1.heap.size _ HS1.out HS2.out).mono ?_); rintro e w2 ⟨rfl, hb2⟩; have RB2 := Aside0.mk (blk_below RV.out hb2); have r0 : w2.cell? ⟨w.heap.size, 0, none⟩ = some (.int .i64 0) := blk_cell RB2.out 0; have r1 : w2.cell? ⟨w.heap.size, 1, none⟩ = some (.int .i64 0) := blk_cell RB2.out 1; have z0 := blk_frozen RB2.out 0; have z1 := blk_frozen RB2.out 1))
 all_goals
  rename_i hh
  have h9 := Aside0.mk hh.2
  clear hh h1
  go_wp2
  exact bodyPost_ret (v := .tuple #[.pointer (some ⟨b1, 0, none⟩), .agg #[.int .i64 (n : Int), .int .i64 q], .bool true]) (by simp [results, Tryd.results37, go_sem, r0, r1]) rfl ⟨⟨b1, rfl, h9.out.2.2.1.mono (by omega)⟩, h9.out.2.2.2⟩
open Go.Proofs.YtkmicbnbclkkkaaDoor.M in
theorem impl_treeOf.call (S : ByteArray) (hS : S.size ≤ 1000000000) (n : Int) (w : World) : Calls Tryd.prog 37 #[.string S, .int .i64 n] w fun e w' =>
  (match treeOf S with
  | some T => if 0 ≤ n ∧ n ≤ 5 ∧ T.within n.toNat = true then ∃ b, e = .returned (.tuple #[.pointer (some ⟨b, 0, none⟩), .agg #[.int .i64 n, .int .i64 ((T.word n.toNat : Nat) : Int)], .bool true]) ∧ impl_readTree.Lies w.heap.size w' T (.pointer (some ⟨b, 0, none⟩)) else e = .returned (.tuple #[.pointer none, .agg #[.int .i64 0, .int .i64 0], .bool false])
  | none => e = .returned (.tuple #[.pointer none, .agg #[.int .i64 0, .int .i64 0], .bool false])) ∧ Below w.heap.size w w' := by
 cases hq : treeOf S with
 | none => exact impl_treeOf.bad1 S n w (fun W => (impl_wholeTree.call S hS W).mono (by rw [hq]; exact fun _ _ h => h))
 | some T =>
  obtain ⟨_, _, _, hT⟩ := treeOf_some hq
  have hC : ∀ W, Calls Tryd.prog 38 #[.string S] W fun e W' => (∃ b, e = .returned (.tuple #[.pointer (some ⟨b, 0, none⟩), .bool true]) ∧ impl_readTree.Lies W.heap.size W' T (.pointer (some ⟨b, 0, none⟩))) ∧ Below W.heap.size W W' := fun W => (impl_wholeTree.call S hS W).mono (by rw [hq]; exact fun _ _ h => h)
  have hbits : ∀ m : Int, impl_isBits.f m = some (decide (0 ≤ m ∧ m ≤ 5)) := fun m => by
   unfold impl_isBits.f
   by_cases h : m ≥ 0
   ·rw [if_pos h]; congr 1; exact decide_eq_decide.mpr ⟨fun e => ⟨h, e⟩, fun e => e.2⟩
   ·rw [if_neg h]; congr 1; exact (decide_eq_false (by omega)).symm
  simp only []
  by_cases h5 : 0 ≤ n ∧ n ≤ 5
  ·obtain ⟨k, rfl⟩ := nat_of h5.1
   rw [Int.toNat_natCast]
   have hb : impl_isBits.f (k : Int) = some true := by rw [hbits, decide_eq_true h5]
   cases hw : T.within k with
   | true =>
    refine (impl_treeOf.good S k w T hT (by omega) hb (fun W b hl => ?_) hC).mono ?_
    ·have h := impl_tree_within.call k hT _ W b hl
     rw [hw] at h; exact h
    ·rintro e w' ⟨h1, h2⟩
     rw [if_pos ⟨h5.1, h5.2, rfl⟩]
     exact ⟨h1, h2⟩
   | false =>
    refine (impl_treeOf.bad3 S (k : Int) w T hb (fun W b hl => ?_) hC).mono ?_
    ·have h := impl_tree_within.call k hT _ W b hl
     rw [hw] at h; exact h
    ·rintro e w' ⟨h1, h2⟩
     rw [if_neg (fun e => by cases e.2.2)]
     exact ⟨h1, h2⟩
  ·refine (impl_treeOf.bad2 S n w T (by rw [hbits, decide_eq_false h5]) hC).mono ?_
   rintro e w' ⟨h1, h2⟩
   rw [if_neg (fun e => h5 ⟨e.1, e.2.1⟩)]
   exact ⟨h1, h2⟩
theorem impl_treeOf.call2 (S : ByteArray) (hS : S.size ≤ 1000000000) (n : Int) (w : World) : Calls Tryd.prog 37 #[.string S, .int .i64 n] w fun e w' =>
  (match tabOf S n with
  | some T => ∃ b, e = .returned (.tuple #[.pointer (some ⟨b, 0, none⟩), .agg #[.int .i64 n, .int .i64 ((T.word n.toNat : Nat) : Int)], .bool true]) ∧ impl_readTree.Lies w.heap.size w' T (.pointer (some ⟨b, 0, none⟩))
  | none => e = .returned (.tuple #[.pointer none, .agg #[.int .i64 0, .int .i64 0], .bool false])) ∧ Below w.heap.size w w' := by
 have h := impl_treeOf.call S hS n w
 unfold tabOf
 cases hq : treeOf S with
 | none => rw [hq] at h; exact h
 | some T =>
  rw [hq] at h
  rw [Option.bind_some]
  by_cases e : 0 ≤ n ∧ n ≤ 5 ∧ T.within n.toNat = true
  ·simp only [if_pos e] at h ⊢; exact h
  ·simp only [if_neg e] at h ⊢; exact h
end Go.Proofs.YtkmicbnbclkkkaaDoor.Print
namespace Go.Proofs.YtkmicbnbclkkkaaDoor.Print
open Go.RowKit Go.Proofs.YtkmicbnbclkkkaaDoorW.PrintWords Go.Proofs.YtkmicbnbclkkkaaDoorW.PrintLast Go.Proofs.YtkmicbnbclkkkaaDoorW.PrintMore
attribute [local go_sem] max2_int min2_int max_two min_two max_three min_three max_four min_four   -- for this text's walks alone
set_option linter.unusedVariables false
set_option linter.unusedSimpArgs false
/-! ### impl_TableOfTree: function 12 -/
open Go.Proofs.YtkmicbnbclkkkaaDoor.M
def impl_TableOfTree.r (a0 : ByteArray) (a1 : Int) : Int × Int × Bool := match tabOf a0 a1 with | some T => (a1, ((T.word a1.toNat : Nat) : Int), true) | none => (0, 0, false)
def impl_TableOfTree.f (a0 : ByteArray) (a1 : Int) : Option (Int × Int × Bool) := if a0.size ≤ 1000000000 then some (impl_TableOfTree.r a0 a1) else none
set_option maxHeartbeats 1600000 in
set_option maxRecDepth 100000 in
theorem impl_TableOfTree.walk (S : ByteArray) (n a b : Int) (ok : Bool) (w : World)
  (hC : ∀ W, Calls Tryd.prog 37 #[.string S, .int .i64 n] W fun e W' => (∃ p : Option Addr, e = .returned (.tuple #[.pointer p, .agg #[.int .i64 a, .int .i64 b], .bool ok])) ∧ Below W.heap.size W W') :
  Calls Tryd.prog 12 #[.string S, .int .i64 n] w fun e w' => e = .returned (.tuple #[.agg #[.int .i64 a, .int .i64 b], .bool ok]) ∧ Below w.heap.size w w' := by
 have huT := Tryd.underlying25
 have HB : Aside0 (Below w.heap.size w (w.alloc (.cells #[.int .i64 0, .int .i64 0] 25))) := ⟨(Below.refl _ _).alloc (Nat.le_refl _) _⟩
 have HR : Aside0 ((w.alloc (.cells #[.int .i64 0, .int .i64 0] 25)).heap[w.heap.size]? = some (.cells #[.int .i64 0, .int .i64 0] 25 (0, 0))) := ⟨blk_new w _⟩
 have C1 := Aside0.mk hC; clear hC
 go_enter Tryd.func12, Tryd.ntmps12
 go_wp2_with (first | (go_at_call 37; (with_reducible refine (C1.out _).mono ?_); rintro e w1 ⟨⟨p1, rfl⟩, hb1⟩; have RB := Aside0.mk (blk_below HR.out hb1); have BB := Aside0.mk (HB.out.trans (hb1.mono HB.out.size)); clear hb1; have BA := Aside0.mk (BB.out.alloc BB.out.size (.cells #[.int .i64 a, .int .i64 b] 25)); have RA := Aside0.mk (blk_alloc RB.out (.cells #[.int .i64 a, .int .i64 b] 25)); have r0 : (w1.alloc (.cells #[.int .i64 a, .int .i64 b] 25)).cell? ⟨w.heap.size, 0, none⟩ = some (.int .i64 0) := blk_cell RA.out 0; have r1 : (w1.alloc (.cells #[.int .i64 a, .int .i64 b] 25)).cell? ⟨w.heap.size, 1, none⟩ = some (.int .i64 0) := blk_cell RA.out 1; have z0 := blk_frozen RA.out 0; have z1 := blk_frozen RA.out 1))
 exact bodyPost_ret (v := .tuple #[.agg #[.int .i64 a, .int .i64 b], .bool ok]) (by simp [results, Tryd.results12, go_sem, r0, r1]) rfl ⟨rfl, (by repeat (first | exact BA.out | apply pw_below_drewN | (refine Below.setCell (p := ⟨w.heap.size, _, none⟩) ?_ (Nat.le_refl _) _; show Below w.heap.size w _)))⟩
theorem impl_TableOfTree.calls (a0 : ByteArray) (a1 : Int) (r1 : Int) (r2 : Int) (r3 : Bool) (w : World) (h : impl_TableOfTree.f a0 a1 = some (r1, r2, r3)) : Calls Tryd.prog 12 #[.string a0, .int .i64 a1] w fun e w' => e = .returned (.tuple #[.agg #[.int .i64 r1, .int .i64 r2], .bool r3]) ∧ Below w.heap.size w w' := by
 unfold impl_TableOfTree.f at h
 by_cases hS : a0.size ≤ 1000000000
 ·rw [if_pos hS] at h
  have h := Option.some.inj h
  refine impl_TableOfTree.walk a0 a1 r1 r2 r3 w fun W => (impl_treeOf.call2 a0 hS a1 W).mono ?_
  unfold impl_TableOfTree.r at h
  cases ht : tabOf a0 a1 with
  | none =>
   rw [ht] at h
   simp only [Prod.mk.injEq] at h
   obtain ⟨rfl, rfl, rfl⟩ := h
   rintro e W' ⟨he, hb⟩; exact ⟨⟨_, he⟩, hb⟩
  | some T =>
   rw [ht] at h
   simp only [Prod.mk.injEq] at h
   obtain ⟨rfl, rfl, rfl⟩ := h
   rintro e W' ⟨⟨b, he, _⟩, hb⟩; exact ⟨⟨_, he⟩, hb⟩
 ·rw [if_neg hS] at h; cases h
end Go.Proofs.YtkmicbnbclkkkaaDoor.Print
namespace Go.Proofs.YtkmicbnbclkkkaaDoor.Print
open Go.RowKit Go.Proofs.YtkmicbnbclkkkaaDoorW.PrintWords Go.Proofs.YtkmicbnbclkkkaaDoorW.PrintLast Go.Proofs.YtkmicbnbclkkkaaDoorW.PrintMore
attribute [local go_sem] max2_int min2_int max_two min_two max_three min_three max_four min_four   -- for this text's walks alone
set_option linter.unusedVariables false
set_option linter.unusedSimpArgs false
/-! ### impl_IsTree: function 13 -/
open Go.Proofs.YtkmicbnbclkkkaaDoor.M
def impl_IsTree.f (a0 : ByteArray) : Option (Bool) := if a0.size ≤ 1000000000 then some (treeOf a0).isSome else none
theorem impl_IsTree.calls (a0 : ByteArray) (r : Bool) (w : World) (h : impl_IsTree.f a0 = some r) : Calls Tryd.prog 13 #[.string a0] w fun e w' => e = .returned (.bool r) ∧ Below w.heap.size w w' := by
 unfold impl_IsTree.f at h
 by_cases hS : a0.size ≤ 1000000000
 ·rw [if_pos hS] at h
  rw [← Option.some.inj h]
  have C1 : Aside0 (Calls Tryd.prog 38 #[.string a0] w fun e w' => (∃ p : Option Addr, e = .returned (.tuple #[.pointer p, .bool (treeOf a0).isSome])) ∧ Below w.heap.size w w') := ⟨(impl_wholeTree.call a0 hS w).mono (by
   cases treeOf a0 with
   | none => rintro e W' ⟨⟨p, he⟩, hb⟩; exact ⟨⟨p, he⟩, hb⟩
   | some T => rintro e W' ⟨⟨b, he, _⟩, hb⟩; exact ⟨⟨_, he⟩, hb⟩)⟩
  generalize (treeOf a0).isSome = q at *
  clear h hS
  go_enter Tryd.func13, Tryd.ntmps13
  go_wp2_with (first | (go_at_call 38; (with_reducible refine C1.out.mono ?_); rintro e w1 ⟨⟨p1, rfl⟩, hb1⟩))
  go_ret
  exact ⟨rfl, hb1⟩
 ·rw [if_neg hS] at h; cases h
end Go.Proofs.YtkmicbnbclkkkaaDoor.Print
namespace Go.Proofs.YtkmicbnbclkkkaaDoor.Print
open Go.RowKit Go.Proofs.YtkmicbnbclkkkaaDoorW.PrintWords Go.Proofs.YtkmicbnbclkkkaaDoorW.PrintLast Go.Proofs.YtkmicbnbclkkkaaDoorW.PrintMore
attribute [local go_sem] max2_int min2_int max_two min_two max_three min_three max_four min_four   -- for this text's walks alone
set_option linter.unusedVariables false
set_option linter.unusedSimpArgs false
/-! ### impl_tree_depth: function 39 -/
open Go.Proofs.YtkmicbnbclkkkaaDoor.M
set_option maxHeartbeats 1600000 in
theorem impl_tree_depth.call {a : Nat} {T : Td} (hT : Dt a T) : a < 32 → ∀ (base : Nat) (w : World) (b : Nat), impl_readTree.Lies base w T (.pointer (some ⟨b, 0, none⟩)) → Calls Tryd.prog 39 #[.pointer (some ⟨b, 0, none⟩)] w fun e w' => e = .returned (.int .i64 ((T.depth : Nat) : Int)) ∧ Drawn0 w w' := by
 induction hT with
 | leaf a c _ =>
  intro ha base w b hl; obtain ⟨b', vl, vr, h0, h1, h2, h3, h4, h5, h6⟩ := hl
  obtain rfl : b = b' := by injection h1 with h1; injection h1 with h1; injection h1
  obtain rfl : vl = .pointer none := h5
  clear ha h0 h1 h2 h4 h6
  show Calls _ _ _ _ fun e w' => e = .returned (.int .i64 0) ∧ _
  go_enter Tryd.func39, Tryd.ntmps39
  go_wp2_with (fail)
  go_ret
  exact ⟨rfl, by repeat (first | exact Drawn0.refl _ | apply Drawn0.step)⟩
 | ask a c l r hc hv hF hF2 ih ih2 =>
  intro ha base w b hl
  rw [depth_ask c r hF]
  obtain ⟨w1, w2, _⟩ := wth_fre a ha (vr c) (by unfold vr; omega) hv
  obtain ⟨b', vl, vr', h0, h1, h2, h3, h4, h5, h6⟩ := hl
  obtain rfl : b = b' := by injection h1 with h1; injection h1 with h1; injection h1
  obtain ⟨b1, rfl⟩ := h5.fine hF
  obtain ⟨b2, rfl⟩ := h6.fine hF2
  have hl1 := hF.depth_le w2
  have hl2 := hF2.depth_le w2
  have hf := fre_le (wth a (vr c))
  have C1 := Aside0.mk (fun W (hb : Below w.heap.size w W) => ih w2 base W b1 (h5.below hb))
  have C2 := Aside0.mk (fun W (hb : Below w.heap.size w W) => ih2 w2 base W b2 (h6.below hb))
  have e : wrap64 (1 + mx ((l.depth : Nat) : Int) ((r.depth : Nat) : Int)) = ((1 + max l.depth r.depth : Nat) : Int) := by rw [mx_nat, w64 (by omega) (by omega)]; omega
  rw [← e]
  generalize ((l.depth : Nat) : Int) = R1 at C1 ⊢
  generalize ((r.depth : Nat) : Int) = R2 at C2 ⊢
  clear ih ih2 ha h0 h1 h2 h5 h6 hl1 hl2 hf e w1 w2 hc hv hF hF2
  go_enter Tryd.func39, Tryd.ntmps39
  go_wp2_with (fail)
  repeat (go_quiet (first | (go_at_call 39; (with_reducible first | refine (C1.out _ ?side).mono ?_ | refine (C2.out _ ?side).mono ?_); (case side => repeat (first | exact Below.refl _ _ | apply pw_below_drewN)); rintro e w' ⟨rfl, ⟨nd2, rfl⟩⟩; (first | exact ⟨rfl, _, World.drewN_drewN _ _ _⟩ | exact ⟨rfl, _, Eq.trans (World.drewN_drewN _ _ _) (congrArg (World.drewN _) (Nat.add_assoc _ _ _))⟩))); try go_wp2)
  all_goals
   go_ret
   refine ⟨?_, by repeat (first | exact Drawn0.refl _ | apply Drawn0.step)⟩
   unfold mx
   first
   | rfl
   | (rw [if_pos (by omega)]; rfl)
   | (rw [if_neg (by omega)]; rfl)
end Go.Proofs.YtkmicbnbclkkkaaDoor.Print
namespace Go.Proofs.YtkmicbnbclkkkaaDoor.Print
open Go.RowKit Go.Proofs.YtkmicbnbclkkkaaDoorW.PrintWords Go.Proofs.YtkmicbnbclkkkaaDoorW.PrintLast Go.Proofs.YtkmicbnbclkkkaaDoorW.PrintMore
attribute [local go_sem] max2_int min2_int max_two min_two max_three min_three max_four min_four   -- for this text's walks alone
set_option linter.unusedVariables false
set_option linter.unusedSimpArgs false
/-! ### impl_DepthOfTree: function 14 -/
open Go.Proofs.YtkmicbnbclkkkaaDoor.M
def impl_DepthOfTree.f (a0 : ByteArray) : Option (Int) := if a0.size ≤ 1000000000 then some (match treeOf a0 with | some T => ((T.depth : Nat) : Int) | none => -1) else none
theorem impl_DepthOfTree.calls (a0 : ByteArray) (r : Int) (w : World) (h : impl_DepthOfTree.f a0 = some r) : Calls Tryd.prog 14 #[.string a0] w fun e w' => e = .returned (.int .i64 r) ∧ Below w.heap.size w w' := by
 unfold impl_DepthOfTree.f at h
 by_cases hS : a0.size ≤ 1000000000
 ·rw [if_pos hS] at h
  have h := Option.some.inj h
  have HC := impl_wholeTree.call a0 hS w
  cases hq : treeOf a0 with
  | none =>
   rw [hq] at h
   obtain rfl : r = -1 := h.symm
   have C1 : Aside0 (Calls Tryd.prog 38 #[.string a0] w fun e w' => ∃ v, e = .returned (.tuple #[v, .bool false]) ∧ Below w.heap.size w w') := ⟨HC.mono (by rw [hq]; rintro e W' ⟨⟨p, he⟩, hb⟩; exact ⟨.pointer p, he, hb⟩)⟩
   clear HC h hq hS
   go_enter Tryd.func14, Tryd.ntmps14
   go_wp2_with (first | (go_at_call 38; (with_reducible refine C1.out.mono ?_); rintro e w1 ⟨v1, rfl, hb1⟩))
   go_ret
   exact ⟨rfl, hb1⟩
  | some T =>
   rw [hq] at h
   obtain ⟨_, _, _, hT⟩ := treeOf_some hq
   obtain rfl : r = ((T.depth : Nat) : Int) := h.symm
   have C1 : Aside0 (Calls Tryd.prog 38 #[.string a0] w fun e w' => ∃ b, e = .returned (.tuple #[.pointer (some ⟨b, 0, none⟩), .bool true]) ∧ impl_readTree.Lies w.heap.size w' T (.pointer (some ⟨b, 0, none⟩)) ∧ Below w.heap.size w w') := ⟨HC.mono (by rw [hq]; rintro e W' ⟨⟨b, he, hl⟩, hb⟩; exact ⟨b, he, hl, hb⟩)⟩
   have C2 := Aside0.mk (fun base w b hl => impl_tree_depth.call hT (by decide) base w b hl)
   generalize ((T.depth : Nat) : Int) = R at *
   clear HC h hq hT hS
   go_enter Tryd.func14, Tryd.ntmps14
   go_wp2_with (first | (go_at_call 38; (with_reducible refine C1.out.mono ?_); rintro e w1 ⟨b1, rfl, hl1, hb1⟩; have L1 := Aside0.mk hl1; clear hl1) | (go_at_call 39; (with_reducible refine (C2.out w.heap.size _ b1 L1.out).mono ?_); rintro e w' ⟨rfl, ⟨nd2, rfl⟩⟩))
   go_ret
   exact ⟨rfl, pw_below_drewN hb1 _⟩
 ·rw [if_neg hS] at h; cases h
end Go.Proofs.YtkmicbnbclkkkaaDoor.Print
namespace Go.Proofs.YtkmicbnbclkkkaaDoor.Print
open Go.RowKit Go.Proofs.YtkmicbnbclkkkaaDoorW.PrintWords Go.Proofs.YtkmicbnbclkkkaaDoorW.PrintLast Go.Proofs.YtkmicbnbclkkkaaDoorW.PrintMore
attribute [local go_sem] max2_int min2_int max_two min_two max_three min_three max_four min_four   -- for this text's walks alone
set_option linter.unusedVariables false
set_option linter.unusedSimpArgs false
/-! ### impl_AverageOf: function 15 -/
open Go.Proofs.YtkmicbnbclkkkaaDoor.M
def impl_AverageOf.r (a0 : ByteArray) (a1 : Int) : Int := match tabOf a0 a1 with | some T => ((T.askS (2 ^ a1.toNat) : Nat) : Int) | none => -1
def impl_AverageOf.f (a0 : ByteArray) (a1 : Int) : Option (Int) := if a0.size ≤ 1000000000 then some (impl_AverageOf.r a0 a1) else none
set_option maxHeartbeats 1600000 in
set_option maxRecDepth 100000 in
theorem impl_AverageOf.bad (S : ByteArray) (n : Int) (w : World) (hC : ∀ W, Calls Tryd.prog 37 #[.string S, .int .i64 n] W fun e W' => e = .returned (.tuple #[.pointer none, .agg #[.int .i64 0, .int .i64 0], .bool false]) ∧ Below W.heap.size W W') :
  Calls Tryd.prog 15 #[.string S, .int .i64 n] w fun e w' => e = .returned (.int .i64 (-1)) ∧ Below w.heap.size w w' := by
 have huT := Tryd.underlying25
 have C1 := Aside0.mk hC; clear hC
 go_enter Tryd.func15, Tryd.ntmps15
 go_wp2_with (first | (go_at_call 37; (with_reducible refine (C1.out _).mono ?_); rintro e w1 ⟨rfl, hb1⟩; have B1 := Aside0.mk (hb1.alloc hb1.size (.cells #[.int .i64 0, .int .i64 0] 25)); clear hb1))
 go_ret
 exact ⟨rfl, B1.out⟩
set_option maxHeartbeats 1600000 in
set_option maxRecDepth 100000 in
theorem impl_AverageOf.good (S : ByteArray) (n N : Nat) (hn : n ≤ 5) (hN : N = 2 ^ n) (q : Int) (T : Td) (hT : Dt 0 T) (w : World) (hC : ∀ W, Calls Tryd.prog 37 #[.string S, .int .i64 (n : Int)] W fun e W' => (∃ b, e = .returned (.tuple #[.pointer (some ⟨b, 0, none⟩), .agg #[.int .i64 (n : Int), .int .i64 q], .bool true]) ∧ impl_readTree.Lies W.heap.size W' T (.pointer (some ⟨b, 0, none⟩))) ∧ Below W.heap.size W W') :
  Calls Tryd.prog 15 #[.string S, .int .i64 (n : Int)] w fun e w' => e = .returned (.int .i64 ((T.askS N : Nat) : Int)) ∧ Below w.heap.size w w' := by
 have huT := Tryd.underlying25
 have C1 := Aside0.mk hC
 have HSZ : Aside0 (impl_Table_size.f (n : Int) q = some (N : Int)) := ⟨by unfold impl_Table_size.f; rw [if_pos (Int.natCast_nonneg n), shl_one (by omega), hN]⟩
 have hN32 : N ≤ 32 := by rw [hN]; exact pow_le_5 hn
 have HT := Aside0.mk hT
 have A2 := Aside0.mk (fun x hx base W b hl => impl_tree_ask.call hT x hx base W b hl)
 clear hC hn hN hT
 go_enter Tryd.func15, Tryd.ntmps15
 go_wp2_with (first | (go_at_call 37; (with_reducible refine (C1.out _).mono ?_); rintro e w1 ⟨⟨b1, rfl, hl⟩, hb1⟩; have B1 := Aside0.mk (hb1.alloc hb1.size (.cells #[.int .i64 (n : Int), .int .i64 q] 25)); have L1 := Aside0.mk (hl.below ((Below.refl _ _).alloc (Nat.le_refl _) (.cells #[.int .i64 (n : Int), .int .i64 q] 25))); clear hb1 hl) | (go_at_call 40; (with_reducible refine (impl_Table_size.calls _ _ _ _ HSZ.out).mono ?_); rintro e w2 ⟨rfl, hb2⟩; have B2 := Aside0.mk (B1.out.trans (hb2.mono B1.out.size)); have L2 := Aside0.mk (L1.out.below hb2); clear hb2))
 go_loopg [23, 8] N (fun gg v23 v8 wr => ∃ x : Nat, x ≤ N ∧ N - x ≤ gg ∧ v23 = .int .i64 (x : Int) ∧ v8 = .int .i64 ((T.askS x : Nat) : Int) ∧ Aside0 (Below w.heap.size w wr ∧ impl_readTree.Lies w.heap.size wr T (.pointer (some ⟨b1, 0, none⟩))))
 case atStart => exact ⟨0, Nat.zero_le _, by omega, rfl, rfl, ⟨B2.out, L2.out⟩⟩
 case round =>
  clear B2 L2; obtain ⟨x, hx, hg, rfl, rfl, HS⟩ := hrel
  by_cases hlt : x < N
  ·have hltz : (x : Int) < (N : Int) := by omega
   have hs := askS_le HT.out x
   have hp := HT.out.path5 x
   have es := Aside0.mk (askS_succ T x)
   have A3 := Aside0.mk (fun b W hl => A2.out x (by omega) w.heap.size W b hl)
   generalize T.askS x = s at *
   generalize T.val x = V at *
   generalize T.path x = P at *
   go_wp2_with (first | (go_at_call 41; (with_reducible refine (A3.out _ _ HS.out.2).mono ?_); rintro e w' ⟨rfl, ⟨nd2, rfl⟩⟩))
   go_roundg (N - (x + 1))
   case measure => omega
   case rel =>
    have e := es.out
    exact ⟨x + 1, by omega, by omega, by go_num, by rw [e]; first | go_num | (push_cast; rfl), ⟨pw_below_drewN HS.out.1 _, HS.out.2.below (pw_below_drewN (Below.refl _ _) _)⟩⟩
  ·obtain rfl : x = N := by omega
   go_wp2
   go_ret
   exact ⟨rfl, HS.out.1⟩
theorem impl_AverageOf.calls (a0 : ByteArray) (a1 : Int) (r : Int) (w : World) (h : impl_AverageOf.f a0 a1 = some r) : Calls Tryd.prog 15 #[.string a0, .int .i64 a1] w fun e w' => e = .returned (.int .i64 r) ∧ Below w.heap.size w w' := by
 unfold impl_AverageOf.f at h
 by_cases hS : a0.size ≤ 1000000000
 ·rw [if_pos hS] at h
  rw [← Option.some.inj h]
  unfold impl_AverageOf.r
  have HC := fun W => impl_treeOf.call2 a0 hS a1 W
  cases ht : tabOf a0 a1 with
  | none => exact impl_AverageOf.bad a0 a1 w (fun W => (HC W).mono (by rw [ht]; exact fun _ _ h => h))
  | some T =>
   obtain ⟨k, rfl, h5, _, hT, _⟩ := tabOf_some ht
   exact impl_AverageOf.good a0 k (2 ^ k) h5 rfl _ T hT w (fun W => (HC W).mono (by rw [ht]; exact fun _ _ h => h))
 ·rw [if_neg hS] at h; cases h
end Go.Proofs.YtkmicbnbclkkkaaDoor.Print
