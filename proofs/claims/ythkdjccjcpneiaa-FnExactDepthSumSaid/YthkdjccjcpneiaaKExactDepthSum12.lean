/- Functions of the given program as plain Lean functions, with proofs that their calls compute them, or lemmas on these. Laid by a program of this repo for the seat Ythkdjccjcpneiaa; Lean checks it. -/
import Derived.Test.YthkdjccjcpneiaaKExactDepthSum0
import Derived.Test.YthkdjccjcpneiaaKExactDepthSum10
import Derived.Test.YthkdjccjcpneiaaKExactDepthSum11
import Derived.Test.YthkdjccjcpneiaaM18
import Derived.Test.YthkdjccjcpneiaaM19
import Derived.Shelf.GgClosure.Gives
import Derived.BigQuiet
import Derived.Deep.RegionHeld3
import Derived.DeepKeys5
namespace Go.Proofs.Ythkdjccjcpneiaa.Print
open Go.RowKit Go.Proofs.YthkdjccjcpneiaaW.PrintWords Go.Proofs.YthkdjccjcpneiaaW.PrintLast Go.Proofs.YthkdjccjcpneiaaW.PrintMore
attribute [local go_sem] max2_int min2_int max_two min_two max_three min_three max_four min_four   -- for this text's walks alone
set_option linter.unusedVariables false
set_option linter.unusedSimpArgs false

--OWNPART
/-! ### impl_asker_left: function 43 -/
--IMPORT M18
--IMPORT M19
--IMPORT Derived.Shelf.GgClosure.Gives
--IMPORT Derived.BigQuiet
--IMPORT Derived.Deep.RegionHeld3
--IMPORT Derived.DeepKeys5
open Go.Proofs.Ythkdjccjcpneiaa.M
set_option maxRecDepth 100000 in
theorem impl_asker_left.laid : laidOutB Try.prog = true := by kernel_rfl
theorem impl_asker_left.wide : (match Try.prog.underlying 74 with | some (.array _ _) | some (.struct _) => true | _ => false) = true := by rw [Try.underlying74]
set_option maxRecDepth 100000 in
theorem impl_asker_left.keyed : Go.Maps.Keyed Try.prog 74 := Go.Maps.Keyed.of_law (deep_law_laid impl_asker_left.laid (m := 2) (by omega) (of_decide_eq_true (by kernel_rfl)) (by kernel_rfl) impl_asker_left.wide)
theorem impl_asker_left.hk : Try.prog.keyType 74 = true := by kernel_rfl
theorem impl_asker_left.hcells : Try.prog.cellsOf 74 = 2 := by kernel_rfl
theorem impl_asker_left.hcells1 : Try.prog.cellsOf 3 = 1 := by kernel_rfl
theorem impl_asker_left.hsz : ∃ q, Try.prog.types.size = q + 1 := ⟨Try.prog.types.size - 1, by have : 0 < Try.prog.types.size := of_decide_eq_true (by kernel_rfl); omega⟩
theorem impl_asker_left.key (a b : Nat) (ha : a < 16) (hb : b < 16) : ∃ kl, keyOf Try.prog 74 (.agg #[.int .i64 (a : Int), .int .i64 (b : Int)]) = some kl := by
  have hwa : (Lit.int .i64 (a : Int)).wf = true := wf_nat (by omega)
  have hwb : (Lit.int .i64 (b : Int)).wf = true := wf_nat (by omega)
  obtain ⟨q, hq⟩ := impl_asker_left.hsz
  unfold keyOf
  rw [Try.underlying74]
  simp only [impl_asker_left.hk, hq]
  simp [Value.formed, Try.underlying74, Try.underlying3, impl_asker_left.hcells, impl_asker_left.hcells1, Program.keyLits, Value.cells, hwa, hwb]
/-- what the map holds of a subcube: the least depth there -/
def impl_asker_left.Good (n v : Nat) (x y : Value) : Prop := ∃ m u : Nat, m < 16 ∧ u < 16 ∧ x = .agg #[.int .i64 (m : Int), .int .i64 (u : Int)] ∧ y = .int .i64 ((ldC n n v (n - pc m) m u : Nat) : Int)
def impl_asker_left.keys : List Value := (List.range 16).flatMap fun (m : Nat) => (List.range 16).map fun (u : Nat) => .agg #[.int .i64 (m : Int), .int .i64 (u : Int)]
theorem impl_asker_left.keys_all (n v : Nat) (x y : Value) (h : impl_asker_left.Good n v x y) : x ∈ impl_asker_left.keys := by
  obtain ⟨m, u, hm, hu, rfl, _⟩ := h
  exact List.mem_flatMap.mpr ⟨m, List.mem_range.mpr hm, List.mem_map.mpr ⟨u, List.mem_range.mpr hu, rfl⟩⟩
theorem impl_asker_left.keys_len : impl_asker_left.keys.length < maxLen := by
  have : impl_asker_left.keys.length = 256 := by
    unfold impl_asker_left.keys
    simp [List.length_flatMap]
    decide
  rw [this]; decide
theorem impl_asker_left.Good.at {n v m u : Nat} {y : Value} (h : impl_asker_left.Good n v (.agg #[.int .i64 (m : Int), .int .i64 (u : Int)]) y) : y = .int .i64 ((ldC n n v (n - pc m) m u : Nat) : Int) := by
  obtain ⟨m', u', _, _, e, rfl⟩ := h
  injection e with e
  have e1 := congrArg (fun a => a[0]?) e
  have e2 := congrArg (fun a => a[1]?) e
  simp at e1 e2
  obtain rfl : m = m' := by omega
  obtain rfl : u = u' := by omega
  rfl
/-- the asker lies in block T, what it remembers in block M -/
def impl_asker_left.St (n v T M : Nat) (mv : Value) (W : World) : Prop := W.heap[T]? = some (.cells #[.int .i64 (n : Int), .int .i64 (v : Int), .map (some M), mv] 81 (0, 0)) ∧ Memo Try.prog 74 3 (impl_asker_left.Good n v) W M
theorem impl_asker_left.St.below {n v T M : Nat} {mv : Value} {W W' : World} (h : impl_asker_left.St n v T M mv W) (hb : Below W.heap.size W W') : impl_asker_left.St n v T M mv W' := ⟨blk_below h.1 hb, h.2.below hb⟩
theorem impl_asker_left.St.ne {n v T M : Nat} {mv : Value} {W : World} (h : impl_asker_left.St n v T M mv W) : T ≠ M := by
  rintro rfl
  obtain ⟨h1, es, clock, h2, _⟩ := h
  rw [h1] at h2; injection h2 with h2; cases h2
/-- within a call: what is asked of lies in block B -/
def impl_asker_left.rS (w : World) (n v T M : Nat) (mv : Value) (B m u : Nat) (W : World) : Prop := W.heap[B]? = some (.cells #[.int .i64 (m : Int), .int .i64 (u : Int)] 74 (0, 0)) ∧ impl_asker_left.St n v T M mv W ∧ But M w W
theorem impl_asker_left.rS.ne {w : World} {n v T M B m u : Nat} {mv : Value} {W : World} (h : impl_asker_left.rS w n v T M mv B m u W) : B ≠ M := by
  rintro rfl
  obtain ⟨h1, ⟨_, es, clock, h2, _⟩, _⟩ := h
  rw [h1] at h2; injection h2 with h2; cases h2
theorem impl_asker_left.rS.below {w : World} {n v T M B m u : Nat} {mv : Value} {W W' : World} (h : impl_asker_left.rS w n v T M mv B m u W) (hb : Below W.heap.size W W') : impl_asker_left.rS w n v T M mv B m u W' :=
  ⟨blk_below h.1 hb, h.2.1.below hb, h.2.2.trans (.of_below hb)⟩
theorem impl_asker_left.rS.but {w : World} {n v T M B m u : Nat} {mv : Value} {W W' : World} (h : impl_asker_left.rS w n v T M mv B m u W) (hs : impl_asker_left.St n v T M mv W') (hb : But M W W') : impl_asker_left.rS w n v T M mv B m u W' :=
  ⟨hb.blk h.ne h.1, hs, h.2.2.trans hb⟩
theorem impl_asker_left.zero (w : World) : (zeroValue 3).run Try.prog w = .ok (.int .i64 0) w := by kernel_rfl
theorem impl_asker_left.rS.all {w : World} {n v T M B m u : Nat} {mv : Value} {W : World} (h : impl_asker_left.rS w n v T M mv B m u W) : W.cell? ⟨B, 0, none⟩ = some (.int .i64 (m : Int)) ∧ W.cell? ⟨B, 1, none⟩ = some (.int .i64 (u : Int)) ∧ W.cell? ⟨T, 0, none⟩ = some (.int .i64 (n : Int)) ∧ W.cell? ⟨T, 1, none⟩ = some (.int .i64 (v : Int)) ∧ W.cell? ⟨T, 2, none⟩ = some (.map (some M)) ∧ impl_asker_left.rS w n v T M mv B m u W :=
  ⟨blk_cell h.1 0, blk_cell h.1 1, blk_cell h.2.1.1 0, blk_cell h.2.1.1 1, blk_cell h.2.1.1 2, h⟩
theorem impl_asker_left.rS.st {w : World} {n v T M B m u : Nat} {mv : Value} {W W' : World} (h : W.cell? ⟨B, 0, none⟩ = some (.int .i64 (m : Int)) ∧ W.cell? ⟨B, 1, none⟩ = some (.int .i64 (u : Int)) ∧ W.cell? ⟨T, 0, none⟩ = some (.int .i64 (n : Int)) ∧ W.cell? ⟨T, 1, none⟩ = some (.int .i64 (v : Int)) ∧ W.cell? ⟨T, 2, none⟩ = some (.map (some M)) ∧ impl_asker_left.rS w n v T M mv B m u W) (hb : Below W.heap.size W W') : W'.cell? ⟨B, 0, none⟩ = some (.int .i64 (m : Int)) ∧ W'.cell? ⟨B, 1, none⟩ = some (.int .i64 (u : Int)) ∧ W'.cell? ⟨T, 0, none⟩ = some (.int .i64 (n : Int)) ∧ W'.cell? ⟨T, 1, none⟩ = some (.int .i64 (v : Int)) ∧ W'.cell? ⟨T, 2, none⟩ = some (.map (some M)) ∧ impl_asker_left.rS w n v T M mv B m u W' :=
  (h.2.2.2.2.2.below hb).all
theorem impl_asker_left.rS.sb {w : World} {n v T M B m u : Nat} {mv : Value} {W W' : World} (h : W.cell? ⟨B, 0, none⟩ = some (.int .i64 (m : Int)) ∧ W.cell? ⟨B, 1, none⟩ = some (.int .i64 (u : Int)) ∧ W.cell? ⟨T, 0, none⟩ = some (.int .i64 (n : Int)) ∧ W.cell? ⟨T, 1, none⟩ = some (.int .i64 (v : Int)) ∧ W.cell? ⟨T, 2, none⟩ = some (.map (some M)) ∧ impl_asker_left.rS w n v T M mv B m u W) (hb : impl_asker_left.St n v T M mv W' ∧ But M W W') : W'.cell? ⟨B, 0, none⟩ = some (.int .i64 (m : Int)) ∧ W'.cell? ⟨B, 1, none⟩ = some (.int .i64 (u : Int)) ∧ W'.cell? ⟨T, 0, none⟩ = some (.int .i64 (n : Int)) ∧ W'.cell? ⟨T, 1, none⟩ = some (.int .i64 (v : Int)) ∧ W'.cell? ⟨T, 2, none⟩ = some (.map (some M)) ∧ impl_asker_left.rS w n v T M mv B m u W' :=
  (h.2.2.2.2.2.but hb.1 hb.2).all
/-- the call's start: what is asked of lies in a block of its own -/
theorem impl_asker_left.start {n v T M m u : Nat} {mv : Value} {w : World} (h : impl_asker_left.St n v T M mv w) : impl_asker_left.rS w n v T M mv w.heap.size m u (w.alloc (.cells #[.int .i64 (m : Int), .int .i64 (u : Int)] 74)) := by
  have hb0 : Below w.heap.size w (w.alloc (.cells #[.int .i64 (m : Int), .int .i64 (u : Int)] 74)) := (Below.refl _ _).alloc (Nat.le_refl _) _
  exact ⟨blk_new w _, h.below hb0, .of_below hb0⟩
set_option maxHeartbeats 4000000 in
set_option maxRecDepth 100000 in
theorem impl_asker_left.hit (n v T M m u R : Nat) (mv : Value) (w : World) (hst : impl_asker_left.St n v T M mv w)
    (hl : ∀ W, W.heap[M]? = (w.alloc (.cells #[.int .i64 (m : Int), .int .i64 (u : Int)] 74)).heap[M]? → (Instr.lookup 79 (.map (some M)) (.agg #[.int .i64 (m : Int), .int .i64 (u : Int)]) true).run Try.prog W = .ok (.tuple #[.int .i64 (R : Int), .bool true]) W) :
    Calls Try.prog 43 #[.pointer (some ⟨T, 0, none⟩), .agg #[.int .i64 (m : Int), .int .i64 (u : Int)]] w fun e w' => e = .returned (.int .i64 (R : Int)) ∧ impl_asker_left.St n v T M mv w' ∧ But M w w' := by
  have huT := Try.underlying25
  have huA := Try.underlying81
  have huK := Try.underlying74
  have HS := Aside0.mk (impl_asker_left.start (m := m) (u := u) hst)
  obtain ⟨c0, c1, a0, a1, a2, _⟩ := HS.out.all
  have HL : ∀ nd, (Instr.lookup 79 (.map (some M)) (.agg #[.int .i64 (m : Int), .int .i64 (u : Int)]) true).run Try.prog ((w.alloc (.cells #[.int .i64 (m : Int), .int .i64 (u : Int)] 74)).drewN nd) = .ok (.tuple #[.int .i64 (R : Int), .bool true]) ((w.alloc (.cells #[.int .i64 (m : Int), .int .i64 (u : Int)] 74)).drewN nd) := fun nd => hl _ (by simp)
  clear hl hst
  go_enter Try.func43, Try.ntmps43
  go_wp2_with (fail)
  go_quiet (fail)
  go_wp2
  go_ret
  exact ⟨rfl, (HS.out.below (pw_below_drewN (Below.refl _ _) _)).2⟩
set_option maxHeartbeats 4000000 in
set_option maxRecDepth 100000 in
theorem impl_asker_left.same (n v T M m u : Nat) (mv : Value) (w : World) (hc : Cb n m u) (hv : v < 2 ^ 2 ^ n) (hst : impl_asker_left.St n v T M mv w) (hcon : conL v (inX n m u) = true) (h0 : ldC n n v (n - pc m) m u = 0)
    (hl : ∀ W, W.heap[M]? = (w.alloc (.cells #[.int .i64 (m : Int), .int .i64 (u : Int)] 74)).heap[M]? → (Instr.lookup 79 (.map (some M)) (.agg #[.int .i64 (m : Int), .int .i64 (u : Int)]) true).run Try.prog W = .ok (.tuple #[.int .i64 0, .bool false]) W) :
    Calls Try.prog 43 #[.pointer (some ⟨T, 0, none⟩), .agg #[.int .i64 (m : Int), .int .i64 (u : Int)]] w fun e w' => e = .returned (.int .i64 0) ∧ impl_asker_left.St n v T M mv w' ∧ But M w w' := by
  have huT := Try.underlying25
  have huA := Try.underlying81
  have huK := Try.underlying74
  have HS := Aside0.mk (impl_asker_left.start (m := m) (u := u) hst)
  obtain ⟨c0, c1, a0, a1, a2, _⟩ := HS.out.all
  have HL : ∀ nd, (Instr.lookup 79 (.map (some M)) (.agg #[.int .i64 (m : Int), .int .i64 (u : Int)]) true).run Try.prog ((w.alloc (.cells #[.int .i64 (m : Int), .int .i64 (u : Int)] 74)).drewN nd) = .ok (.tuple #[.int .i64 0, .bool false]) ((w.alloc (.cells #[.int .i64 (m : Int), .int .i64 (u : Int)] 74)).drewN nd) := fun nd => hl _ (by simp)
  have h16 := pow16 hc.hn
  have hmm := hc.hm
  have huu := hc.hu
  have HC := Aside0.mk (fun W => impl_Table_cube.call n v m u (2 ^ n) (by have := hc.hn; omega) rfl hv (by omega) (by omega) W)
  have hval : impl_Table_cube.val (impl_Table_cube.seen v m u false (2 ^ n)) (impl_Table_cube.seen v m u true (2 ^ n)) ≠ 2 := fun e => by
    have := (impl_Table_cube.con hc.ne).mp e
    rw [hcon] at this; cases this
  generalize impl_Table_cube.val (impl_Table_cube.seen v m u false (2 ^ n)) (impl_Table_cube.seen v m u true (2 ^ n)) = R at *
  have hval2 : (R == 2) = false := beq_eq_false_iff_ne.mpr hval
  have HK := Aside0.mk (impl_asker_left.key m u (by omega) (by omega))
  have HG : Aside0 (impl_asker_left.Good n v (.agg #[.int .i64 (m : Int), .int .i64 (u : Int)]) (.int .i64 0)) := ⟨⟨m, u, by omega, by omega, rfl, by rw [h0]; rfl⟩⟩
  clear hl hst hval hmm huu h16
  go_enter Try.func43, Try.ntmps43
  go_wp2_with (fail)
  go_quiet (fail)
  go_wp2
  generalize hwr : World.drewN _ _ = wr
  have hS : impl_asker_left.rS w n v T M mv w.heap.size m u wr := by rw [← hwr]; exact HS.out.below (pw_below_drewN (Below.refl _ _) _)
  clear hwr c0 c1 a0 a1 a2 HL
  have h1 := impl_asker_left.rS.st hS.all (Below.refl _ _).drew
  go_region_held3 (fun W => W.cell? ⟨w.heap.size, 0, none⟩ = some (.int .i64 (m : Int)) ∧ W.cell? ⟨w.heap.size, 1, none⟩ = some (.int .i64 (u : Int)) ∧ W.cell? ⟨T, 0, none⟩ = some (.int .i64 (n : Int)) ∧ W.cell? ⟨T, 1, none⟩ = some (.int .i64 (v : Int)) ∧ W.cell? ⟨T, 2, none⟩ = some (.map (some M)) ∧ impl_asker_left.rS w n v T M mv w.heap.size m u W) (first | exact h1 | (refine impl_asker_left.rS.st (by assumption) ?_; first | assumption | exact Below.refl _ _)) (first | (go_at_call 52; (with_reducible refine (HC.out _).mono ?_); rintro e w' ⟨rfl, hb⟩))
  rename_i hh
  have h9 := hh.2.2.2.2.2
  clear h1 hS hh
  go_wp2
  obtain ⟨kl, hkl⟩ := HK.out
  obtain ⟨w2, hrun, hM2, ht2⟩ := h9.2.1.2.drew.store (t := 79) (q := .i64) (a := 0) impl_asker_left.keyed Try.underlying79 (impl_asker_left.keys_all n v) impl_asker_left.keys_len Try.underlying3 (wf_nat (a := 0) (by decide)) hkl HG.out
  have H2 : Aside0 (impl_asker_left.St n v T M mv w2 ∧ But M w w2) := ⟨⟨(But.of_turned ht2).blk h9.2.1.ne h9.2.1.1, hM2⟩, h9.2.2.trans ((But.of_below (Below.refl _ _).drew).trans (.of_turned ht2))⟩
  have c0 := blk_cell h9.1 0
  have c1 := blk_cell h9.1 1
  have a2 := blk_cell h9.2.1.1 2
  clear hkl hM2 ht2 h9
  go_region
  go_wp2
  go_ret
  exact ⟨rfl, H2.out⟩
theorem impl_asker_left.rS.toSt {w : World} {n v T M m u : Nat} {mv : Value} {W : World} (h : W.cell? ⟨w.heap.size, 0, none⟩ = some (.int .i64 (m : Int)) ∧ W.cell? ⟨w.heap.size, 1, none⟩ = some (.int .i64 (u : Int)) ∧ W.cell? ⟨T, 0, none⟩ = some (.int .i64 (n : Int)) ∧ W.cell? ⟨T, 1, none⟩ = some (.int .i64 (v : Int)) ∧ W.cell? ⟨T, 2, none⟩ = some (.map (some M)) ∧ impl_asker_left.rS w n v T M mv w.heap.size m u W) : impl_asker_left.St n v T M mv W := h.2.2.2.2.2.2.1
theorem impl_asker_left.with0 {m u i : Nat} (hm : m < 16) (hu : u < 16) (hi : i < 4) : impl_known_with.f (m : Int) (u : Int) (i : Int) 0 = some (((m ||| 2 ^ i : Nat) : Int), (u : Int)) := by
  have hp := p63 (n := i) (by omega)
  unfold impl_known_with.f
  have e : shl .i64 0 (i : Int) = ((0 : Nat) : Int) := by
    have := shl_nat (x := 0) (n := i) (by omega) (by omega)
    rw [Nat.zero_mul] at this; exact this
  rw [if_pos (Int.natCast_nonneg i), shl_one (by omega), or_nat (by omega) hp, e, or_nat (by omega) (by omega), Nat.or_zero]
theorem impl_asker_left.with1 {m u i : Nat} (hm : m < 16) (hu : u < 16) (hi : i < 4) : impl_known_with.f (m : Int) (u : Int) (i : Int) 1 = some (((m ||| 2 ^ i : Nat) : Int), ((u ||| 2 ^ i : Nat) : Int)) := by
  have hp := p63 (n := i) (by omega)
  unfold impl_known_with.f
  rw [if_pos (Int.natCast_nonneg i), shl_one (by omega), or_nat (by omega) hp, or_nat (by omega) hp]
/-- what a free variable leads to -/
abbrev impl_asker_left.g (n v d m u i : Nat) : Nat := max (ldC n n v d (m ||| 2 ^ i) u) (ldC n n v d (m ||| 2 ^ i) (u ||| 2 ^ i))
set_option maxHeartbeats 8000000 in
set_option maxRecDepth 100000 in
theorem impl_asker_left.step (n v T M m u d : Nat) (mv : Value) (w : World) (hc : Cb n m u) (hd : pc m + (d + 1) = n) (hv : v < 2 ^ 2 ^ n) (hst : impl_asker_left.St n v T M mv w) (hcon : ¬ conL v (inX n m u) = true)
    (ih : ∀ m u W, Cb n m u → pc m + d = n → impl_asker_left.St n v T M mv W → Calls Try.prog 43 #[.pointer (some ⟨T, 0, none⟩), .agg #[.int .i64 (m : Int), .int .i64 (u : Int)]] W fun e w' => e = .returned (.int .i64 ((ldC n n v d m u : Nat) : Int)) ∧ impl_asker_left.St n v T M mv w' ∧ But M W w')
    (hl : ∀ W, W.heap[M]? = (w.alloc (.cells #[.int .i64 (m : Int), .int .i64 (u : Int)] 74)).heap[M]? → (Instr.lookup 79 (.map (some M)) (.agg #[.int .i64 (m : Int), .int .i64 (u : Int)]) true).run Try.prog W = .ok (.tuple #[.int .i64 0, .bool false]) W) :
    Calls Try.prog 43 #[.pointer (some ⟨T, 0, none⟩), .agg #[.int .i64 (m : Int), .int .i64 (u : Int)]] w fun e w' => e = .returned (.int .i64 ((ldC n n v (d + 1) m u : Nat) : Int)) ∧ impl_asker_left.St n v T M mv w' ∧ But M w w' := by
  have huT := Try.underlying25
  have huA := Try.underlying81
  have huK := Try.underlying74
  have HS := Aside0.mk (impl_asker_left.start (m := m) (u := u) hst)
  obtain ⟨c0, c1, a0, a1, a2, _⟩ := HS.out.all
  have HL : ∀ nd, (Instr.lookup 79 (.map (some M)) (.agg #[.int .i64 (m : Int), .int .i64 (u : Int)]) true).run Try.prog ((w.alloc (.cells #[.int .i64 (m : Int), .int .i64 (u : Int)] 74)).drewN nd) = .ok (.tuple #[.int .i64 0, .bool false]) ((w.alloc (.cells #[.int .i64 (m : Int), .int .i64 (u : Int)] 74)).drewN nd) := fun nd => hl _ (by simp)
  have h16 := pow16 hc.hn
  have hmm := hc.hm
  have huu := hc.hu
  have hn4 := hc.hn
  have HC := Aside0.mk (fun W => impl_Table_cube.call n v m u (2 ^ n) (by omega) rfl hv (by omega) (by omega) W)
  have hval : impl_Table_cube.val (impl_Table_cube.seen v m u false (2 ^ n)) (impl_Table_cube.seen v m u true (2 ^ n)) = 2 := (impl_Table_cube.con hc.ne).mpr (by simpa using hcon)
  rw [hval] at HC
  have HK := Aside0.mk (impl_asker_left.key m u (by omega) (by omega))
  have hld : ldC n n v (d + 1) m u = bestOf (impl_asker_left.g n v d m u) n (frL n m) := by rw [ldC, if_neg hcon]
  have hdd : n - pc m = d + 1 := by omega
  have HG : Aside0 (impl_asker_left.Good n v (.agg #[.int .i64 (m : Int), .int .i64 (u : Int)]) (.int .i64 ((ldC n n v (d + 1) m u : Nat) : Int))) := ⟨⟨m, u, by omega, by omega, rfl, by rw [hdd]⟩⟩
  rw [hld] at HG ⊢
  have HCB := Aside0.mk hc
  have HD := Aside0.mk hd
  have IH := Aside0.mk ih
  have HBN : Aside0 (∀ i, bestOf (impl_asker_left.g n v d m u) n (frL i m) ≤ n) := ⟨fun i => (bestOf_le _ _ _).1⟩
  have hm16 : m < 16 := by omega
  have hu16 : u < 16 := by omega
  clear hl hst hval hmm huu h16 hld hdd hc hd ih hcon hv
  go_enter Try.func43, Try.ntmps43
  go_wp2_with (fail)
  go_quiet (fail)
  go_wp2
  generalize hwr : World.drewN _ _ = wr
  have hS : impl_asker_left.rS w n v T M mv w.heap.size m u wr := by rw [← hwr]; exact HS.out.below (pw_below_drewN (Below.refl _ _) _)
  clear hwr c0 c1 a0 a1 a2 HL
  have h1 := impl_asker_left.rS.st hS.all (Below.refl _ _).drew
  go_region_held3 (fun W => W.cell? ⟨w.heap.size, 0, none⟩ = some (.int .i64 (m : Int)) ∧ W.cell? ⟨w.heap.size, 1, none⟩ = some (.int .i64 (u : Int)) ∧ W.cell? ⟨T, 0, none⟩ = some (.int .i64 (n : Int)) ∧ W.cell? ⟨T, 1, none⟩ = some (.int .i64 (v : Int)) ∧ W.cell? ⟨T, 2, none⟩ = some (.map (some M)) ∧ impl_asker_left.rS w n v T M mv w.heap.size m u W) (first | exact h1 | (refine impl_asker_left.rS.st (by assumption) ?_; first | assumption | exact Below.refl _ _)) (first | (go_at_call 52; (with_reducible refine (HC.out _).mono ?_); rintro e w1 ⟨rfl, hb⟩))
  rename_i hh
  have h9 := Aside0.mk hh.2.2.2.2.2
  obtain ⟨_, _, a0, a1, _, _⟩ := hh
  clear h1 hS
  go_wp2
  go_loopg [40, 7] n (fun gg v40 v7 wr => ∃ i : Nat, i ≤ n ∧ n - i ≤ gg ∧ v40 = .int .i64 (i : Int) ∧ v7 = .int .i64 ((bestOf (impl_asker_left.g n v d m u) n (frL i m) : Nat) : Int) ∧ Aside0 (impl_asker_left.rS w n v T M mv w.heap.size m u wr))
  case atStart => exact ⟨0, Nat.zero_le _, by omega, rfl, rfl, h9⟩
  case round =>
    clear h9 a0 a1 hb
    obtain ⟨i, hi, hg, rfl, rfl, hS⟩ := hrel
    by_cases hlt : i < n
    · have hltz : (i : Int) < (n : Int) := by omega
      obtain ⟨c0, c1, _⟩ := hS.out.all
      have hmb := bit_nat (a := m) (n := i) (by omega) (by omega)
      have es : ∀ y : Nat, shr .i64 (y : Int) (i : Int) = (y : Int) / 2 ^ i := fun y => by rw [shr_nat (by omega)]; push_cast; rfl
      rw [es] at hmb
      have hi64 : i ≤ 64 := by omega
      clear es
      cases hm : m.testBit i with
      | true =>
        have hf := Aside0.mk (frL_succ_held hm)
        rw [hm] at hmb
        clear hm
        go_wp2
        go_roundg (n - (i + 1))
        case measure => omega
        case rel => exact ⟨i + 1, by omega, by omega, by go_num, by rw [hf.out], hS⟩
      | false =>
        have hf := Aside0.mk (frL_succ_free hm)
        have hmem : i ∈ frL n m := by unfold frL; exact List.mem_filter.mpr ⟨List.mem_range.mpr hlt, by rw [hm]; rfl⟩
        obtain ⟨q0, q1, q2⟩ := HCB.out.step hmem
        have hdd := HD.out
        have hd4 : d ≤ 4 := by omega
        have IH0 := Aside0.mk (fun W => IH.out _ _ W q0 (by omega))
        have IH1 := Aside0.mk (fun W => IH.out _ _ W q1 (by omega))
        have W0 := Aside0.mk (impl_asker_left.with0 (m := m) (u := u) (i := i) hm16 hu16 (by omega))
        have W1 := Aside0.mk (impl_asker_left.with1 (m := m) (u := u) (i := i) hm16 hu16 (by omega))
        have hle0 := ldC_le (v := v) (Nat.le_refl n) q0 (d := d) (by omega)
        have hle1 := ldC_le (v := v) (Nat.le_refl n) q1 (d := d) (by omega)
        have hb0 := HBN.out i
        have hb1 : bestOf (impl_asker_left.g n v d m u) n (frL (i + 1) m) = min (bestOf (impl_asker_left.g n v d m u) n (frL i m)) (1 + max (ldC n n v d (m ||| 2 ^ i) u) (ldC n n v d (m ||| 2 ^ i) (u ||| 2 ^ i))) := by rw [hf.out, bestOf_snoc]
        have HB1 := Aside0.mk hb1
        rw [hm] at hmb
        generalize ldC n n v d (m ||| 2 ^ i) u = R0 at *
        generalize ldC n n v d (m ||| 2 ^ i) (u ||| 2 ^ i) = R1 at *
        generalize bestOf (impl_asker_left.g n v d m u) n (frL i m) = b at *
        generalize m ||| 2 ^ i = m1 at *
        generalize u ||| 2 ^ i = u1 at *
        clear hm hmem q0 q1 q2 hdd hb1 hf
        go_wp2
        have h1 := impl_asker_left.rS.st hS.out.all (Below.refl _ _).drew
        go_region_held3 (fun W => W.cell? ⟨w.heap.size, 0, none⟩ = some (.int .i64 (m : Int)) ∧ W.cell? ⟨w.heap.size, 1, none⟩ = some (.int .i64 (u : Int)) ∧ W.cell? ⟨T, 0, none⟩ = some (.int .i64 (n : Int)) ∧ W.cell? ⟨T, 1, none⟩ = some (.int .i64 (v : Int)) ∧ W.cell? ⟨T, 2, none⟩ = some (.map (some M)) ∧ impl_asker_left.rS w n v T M mv w.heap.size m u W) (first | exact h1 | (refine impl_asker_left.rS.st (by assumption) ?_; first | assumption | exact Below.refl _ _) | (refine impl_asker_left.rS.sb (by assumption) ?_; assumption)) (first | (go_at_call 53; (with_reducible first | refine (impl_known_with.calls _ _ _ _ _ _ _ W0.out).mono ?_ | refine (impl_known_with.calls _ _ _ _ _ _ _ W1.out).mono ?_); rintro e w1 ⟨rfl, hb⟩) | (go_at_call 43; (with_reducible first | refine (IH0.out _ ?s).mono ?_ | refine (IH1.out _ ?s).mono ?_); (case s => exact impl_asker_left.rS.toSt (by assumption)); rintro e w2 ⟨rfl, hb⟩))
        all_goals
          rename_i hh
          have h9 := Aside0.mk hh.2.2.2.2.2
          clear hh h1
          rw [min_val b R0 R1 (by omega) (by omega), ← HB1.out]
          generalize (if R0 < R1 then (R1 : Int) else (R0 : Int)) = mm
          go_wp2
          go_roundg (n - (i + 1))
          case measure => omega
          case rel => exact ⟨i + 1, by omega, by omega, by go_num, rfl, h9⟩
    · obtain rfl : i = n := by omega
      have h9 := hS.out
      have hb0 := HBN.out i
      obtain ⟨kl, hkl⟩ := HK.out
      obtain ⟨w2, hrun, hM2, ht2⟩ := h9.2.1.2.drew.store (t := 79) (q := .i64) (a := ((bestOf (impl_asker_left.g i v d m u) i (frL i m) : Nat) : Int)) impl_asker_left.keyed Try.underlying79 (impl_asker_left.keys_all i v) impl_asker_left.keys_len Try.underlying3 (wf_nat (by omega)) hkl HG.out
      have H2 : Aside0 (impl_asker_left.St i v T M mv w2 ∧ But M w w2) := ⟨⟨(But.of_turned ht2).blk h9.2.1.ne h9.2.1.1, hM2⟩, h9.2.2.trans ((But.of_below (Below.refl _ _).drew).trans (.of_turned ht2))⟩
      have c0 := blk_cell h9.1 0
      have c1 := blk_cell h9.1 1
      have a2 := blk_cell h9.2.1.1 2
      clear hkl hM2 ht2 h9
      go_wp2
      go_region
      go_wp2
      go_ret
      exact ⟨rfl, H2.out⟩
set_option maxHeartbeats 400000 in
theorem impl_asker_left.call (n v T M : Nat) (mv : Value) (hn : n ≤ 4) (hv : v < 2 ^ 2 ^ n) : ∀ d m u w, Cb n m u → pc m + d = n → impl_asker_left.St n v T M mv w →
    Calls Try.prog 43 #[.pointer (some ⟨T, 0, none⟩), .agg #[.int .i64 (m : Int), .int .i64 (u : Int)]] w fun e w' => e = .returned (.int .i64 ((ldC n n v d m u : Nat) : Int)) ∧ impl_asker_left.St n v T M mv w' ∧ But M w w' := by
  intro d
  induction d with
  | zero =>
    intro m u w hc hd hst
    have h16 := pow16 hn
    have hm16 : m < 16 := by have := hc.hm; omega
    have hu16 : u < 16 := by have := hc.hu; omega
    obtain ⟨kl, hkl⟩ := impl_asker_left.key m u hm16 hu16
    have e0 : n - pc m = 0 := by omega
    rcases (impl_asker_left.start (m := m) (u := u) hst).2.1.2.look_all (t := 79) impl_asker_left.keyed Try.underlying79 impl_asker_left.zero hkl with hl | ⟨y, hy, hl⟩
    · exact impl_asker_left.same n v T M m u mv w hc hv hst (hc.con (by omega)) (by rw [e0]; rfl) hl
    · obtain rfl := hy.at
      rw [e0] at hl
      exact impl_asker_left.hit n v T M m u _ mv w hst hl
  | succ d ih =>
    intro m u w hc hd hst
    have h16 := pow16 hn
    have hm16 : m < 16 := by have := hc.hm; omega
    have hu16 : u < 16 := by have := hc.hu; omega
    obtain ⟨kl, hkl⟩ := impl_asker_left.key m u hm16 hu16
    have e0 : n - pc m = d + 1 := by omega
    rcases (impl_asker_left.start (m := m) (u := u) hst).2.1.2.look_all (t := 79) impl_asker_left.keyed Try.underlying79 impl_asker_left.zero hkl with hl | ⟨y, hy, hl⟩
    · by_cases hcon : conL v (inX n m u) = true
      · have h0 : ldC n n v (d + 1) m u = 0 := by rw [ldC, if_pos hcon]
        rw [h0]
        exact impl_asker_left.same n v T M m u mv w hc hv hst hcon (by rw [e0]; exact h0) hl
      · exact impl_asker_left.step n v T M m u d mv w hc hd hv hst hcon ih hl
    · obtain rfl := hy.at
      rw [e0] at hl
      exact impl_asker_left.hit n v T M m u _ mv w hst hl


end Go.Proofs.Ythkdjccjcpneiaa.Print
