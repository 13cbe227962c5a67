/- Functions of the given program as plain Lean functions, with proofs that their calls compute them, or lemmas on these. Laid by a program of this repo for the seat Ythkdjccjcpneiaa; Lean checks it. -/
import Derived.Test.YthkdjccjcpneiaaKExactLeastBits0
import Derived.Test.YthkdjccjcpneiaaKExactLeastBits2
import Derived.Test.YthkdjccjcpneiaaKExactLeastBits5
import Derived.Test.YthkdjccjcpneiaaM20
import Derived.Test.YthkdjccjcpneiaaM19
import Derived.Carry
import Derived.BigRegion
import Derived.Deep.RegionHeld3
namespace Go.Proofs.Ythkdjccjcpneiaa.Print
open Go.RowKit Go.Proofs.YthkdjccjcpneiaaW.PrintWords Go.Proofs.YthkdjccjcpneiaaW.PrintLast Go.Proofs.YthkdjccjcpneiaaW.PrintMore
attribute [local go_sem] max2_int min2_int max_two min_two max_three min_three max_four min_four   -- for this text's walks alone
set_option linter.unusedVariables false
set_option linter.unusedSimpArgs false

--OWNPART
/-! ### impl_LeastBits: function 8 -/
--IMPORT M20
--IMPORT M19
--IMPORT Derived.Carry
--IMPORT Derived.BigRegion
--IMPORT Derived.Deep.RegionHeld3
open Go.Proofs.Ythkdjccjcpneiaa.M
def impl_LeastBits.f (a0_0 : Int) (a0_1 : Int) (a1 : Int) : Option (Int) :=
  (impl_isSplit.f a0_0 a0_1 a1).bind fun t => if t = true ∧ a1 ≤ 2 ∧ a0_0 - a1 ≤ 2 then (if 0 ≤ a0_0 ∧ a0_0 ≤ 4 ∧ 0 ≤ a1 ∧ a1 ≤ a0_0 ∧ 0 ≤ a0_1 ∧ a0_1 < ((2 ^ 2 ^ a0_0.toNat : Nat) : Int) then some (((nd (conB a0_0.toNat a1.toNat a0_1.toNat) 40 (2 ^ 2 ^ a1.toNat - 1) (2 ^ 2 ^ (a0_0.toNat - a1.toNat) - 1) : Nat) : Int)) else none) else (if t = true → 0 ≤ a1 ∧ 0 ≤ a0_0 ∧ a0_0 ≤ 5 then some (-1) else none)
theorem impl_LeastBits.fin (w w1 : World) (x y n v k : Int) (hC1 : w1.heap[w.heap.size + 1]? = some (.cells #[.int .i64 0, .int .i64 0] 43 (0, 0))) (hB : Below w.heap.size w w1) (W : World)
    (hW : W = ((((w1.alloc (.map #[] 0)).alloc (.cells #[.int .i64 n, .int .i64 v, .int .i64 k, .map (some w1.heap.size)] 63)).setCell ⟨w.heap.size + 1, 0, none⟩ (.int .i64 x)).setCell ⟨w.heap.size + 1, 1, none⟩ (.int .i64 y)).drew) :
    W.cell? ⟨w.heap.size + 1, 0, none⟩ = some (.int .i64 x) ∧ W.cell? ⟨w.heap.size + 1, 1, none⟩ = some (.int .i64 y) ∧ W.heap[w1.heap.size + 1]? = some (.cells #[.int .i64 n, .int .i64 v, .int .i64 k, .map (some w1.heap.size)] 63 (0, 0)) ∧ W.heap[w1.heap.size]? = some (.map #[] 0) ∧ Below w.heap.size w W := by
  subst hW
  have hlt := blk_lt hC1
  have a2 : ((w1.alloc (.map #[] 0)).alloc (.cells #[.int .i64 n, .int .i64 v, .int .i64 k, .map (some w1.heap.size)] 63)).heap[w.heap.size + 1]? = some (.cells #[.int .i64 0, .int .i64 0] 43 (0, 0)) := blk_alloc (blk_alloc hC1 _) _
  have a4 := blk_set (blk_set a2 0 (.int .i64 x)) 1 (.int .i64 y)
  have t2 : ((w1.alloc (.map #[] 0)).alloc (.cells #[.int .i64 n, .int .i64 v, .int .i64 k, .map (some w1.heap.size)] 63)).heap[w1.heap.size + 1]? = some (.cells #[.int .i64 n, .int .i64 v, .int .i64 k, .map (some w1.heap.size)] 63 (0, 0)) := by
    have := blk_new (w1.alloc (.map #[] 0)) (.cells #[.int .i64 n, .int .i64 v, .int .i64 k, .map (some w1.heap.size)] 63)
    simpa using this
  have m2 : ((w1.alloc (.map #[] 0)).alloc (.cells #[.int .i64 n, .int .i64 v, .int .i64 k, .map (some w1.heap.size)] 63)).heap[w1.heap.size]? = some (.map #[] 0) := blk_alloc (blk_new w1 _) _
  refine ⟨?_, ?_, ?_, ?_, ?_⟩
  · have := blk_cell (blk_drew a4) 0; simpa using this
  · have := blk_cell (blk_drew a4) 1; simpa using this
  · exact blk_drew (blk_far (blk_far t2 (p := ⟨w.heap.size + 1, 0, none⟩) (by show w1.heap.size + 1 ≠ w.heap.size + 1; omega) _) (p := ⟨w.heap.size + 1, 1, none⟩) (by show w1.heap.size + 1 ≠ w.heap.size + 1; omega) _)
  · exact (Below.heap_setCell _ ⟨w.heap.size + 1, 1, none⟩ _ _ (by show w1.heap.size ≠ w.heap.size + 1; omega)).trans ((Below.heap_setCell _ ⟨w.heap.size + 1, 0, none⟩ _ _ (by show w1.heap.size ≠ w.heap.size + 1; omega)).trans m2)
  · have hs := hB.size
    exact (((((hB.alloc hs _).alloc (by simp; omega) _).setCell (p := ⟨w.heap.size + 1, 0, none⟩) (by show w.heap.size ≤ w.heap.size + 1; omega) _).setCell (p := ⟨w.heap.size + 1, 1, none⟩) (by show w.heap.size ≤ w.heap.size + 1; omega) _)).drew
set_option maxHeartbeats 4000000 in
set_option maxRecDepth 100000 in
theorem impl_LeastBits.talk00 (v : Int) (hsp : impl_isSplit.f 0 v 0 = some true) (w : World) : Calls Try.prog 19 #[.agg #[.int .i64 0, .int .i64 v], .int .i64 0] w fun e w' => ∃ T M, e = .returned (.tuple #[.pointer (some ⟨T, 0, none⟩), .agg #[.int .i64 1, .int .i64 1], .bool true]) ∧ w'.heap[T]? = some (.cells #[.int .i64 0, .int .i64 v, .int .i64 0, .map (some M)] 63 (0, 0)) ∧ w'.heap[M]? = some (.map #[] 0) ∧ w.heap.size ≤ M ∧ Below w.heap.size w w' := by
  have huT := Try.underlying25
  have huA := Try.underlying63
  have huS := Try.underlying43
  have hmk : ∀ W, (Instr.makeMap 61 none).run Try.prog W = .ok (.map (some W.heap.size)) (W.alloc (.map #[] 0)) := fun W => run_makeMap 61 W
  obtain ⟨W0, hW0⟩ : ∃ W0, W0 = (w.alloc (.cells #[.int .i64 0, .int .i64 v] 25)).alloc (.cells #[.int .i64 0, .int .i64 0] 43) := ⟨_, rfl⟩
  have HB : Aside0 (Below w.heap.size w W0) := ⟨by rw [hW0]; exact ((Below.refl _ _).alloc (Nat.le_refl _) _).alloc (by simp) _⟩
  have C0 : Aside0 (W0.heap[w.heap.size]? = some (.cells #[.int .i64 0, .int .i64 v] 25 (0, 0))) := ⟨by rw [hW0]; exact blk_alloc (blk_new w _) _⟩
  have C1 : Aside0 (W0.heap[w.heap.size + 1]? = some (.cells #[.int .i64 0, .int .i64 0] 43 (0, 0))) := ⟨by
    rw [hW0]; have := blk_new (w.alloc (.cells #[.int .i64 0, .int .i64 v] 25)) (.cells #[.int .i64 0, .int .i64 0] 43)
    simpa using this⟩
  have CW := Aside0.mk hW0
  have HSP := Aside0.mk hsp
  clear hW0 hsp
  have wi0 : IntKind.i64.wrap 0 = 0 := by decide
  have wi1 : IntKind.i64.wrap 1 = 1 := by decide
  have wi2 : IntKind.i64.wrap 2 = 2 := by decide
  have wi3 : IntKind.i64.wrap 3 = 3 := by decide
  have wi4 : IntKind.i64.wrap 4 = 4 := by decide
  have wi15 : IntKind.i64.wrap 15 = 15 := by decide
  have wi16 : IntKind.i64.wrap 16 = 16 := by decide
  have wu1 : IntKind.u64.wrap 1 = 1 := by decide
  have wu2 : IntKind.u64.wrap 2 = 2 := by decide
  have wu4 : IntKind.u64.wrap 4 = 4 := by decide
  go_enter Try.func19, Try.ntmps19
  go_wp2_with (first | (go_at_call 35; rw [← CW.out]; (with_reducible refine (impl_isSplit.calls _ _ _ _ _ HSP.out).mono ?_); rintro e w1 ⟨rfl, hb⟩; have B1 := Aside0.mk hb; clear hb; have q0 := blk_cell (blk_below C0.out B1.out) 0; have q1 := blk_cell (blk_below C0.out B1.out) 1; have z0 := blk_cell (blk_below C1.out B1.out) 0; have z1 := blk_cell (blk_below C1.out B1.out) 1; have y0 := blk_frozen (blk_below C1.out B1.out) 0; have y1 := blk_frozen (blk_below C1.out B1.out) 1; have nlt := blk_lt (blk_below C1.out B1.out); have n1 : w.heap.size + 1 ≠ w1.heap.size := (by omega); have n2 : w.heap.size ≠ w1.heap.size := (by omega); have n3 : w.heap.size ≠ w1.heap.size + 1 := (by omega)))
  have f0 : ∀ o : Obj, (w1.alloc o).cell? ⟨w.heap.size + 1, 0, none⟩ = some (.int .i64 0) := fun o => blk_cell (blk_alloc (blk_below C1.out B1.out) o) 0
  have f1 : ∀ o : Obj, (w1.alloc o).cell? ⟨w.heap.size + 1, 1, none⟩ = some (.int .i64 0) := fun o => blk_cell (blk_alloc (blk_below C1.out B1.out) o) 1
  have f2 : ∀ o o2 : Obj, ((w1.alloc o).alloc o2).cell? ⟨w.heap.size + 1, 0, none⟩ = some (.int .i64 0) := fun o o2 => blk_cell (blk_alloc (blk_alloc (blk_below C1.out B1.out) o) o2) 0
  have f3 : ∀ o o2 : Obj, ((w1.alloc o).alloc o2).cell? ⟨w.heap.size + 1, 1, none⟩ = some (.int .i64 0) := fun o o2 => blk_cell (blk_alloc (blk_alloc (blk_below C1.out B1.out) o) o2) 1
  have k0 : ∀ o : Obj, (w1.alloc o).frozen? ⟨w.heap.size + 1, 0, none⟩ = false := fun o => blk_frozen (blk_alloc (blk_below C1.out B1.out) o) 0
  have k1 : ∀ o : Obj, (w1.alloc o).frozen? ⟨w.heap.size + 1, 1, none⟩ = false := fun o => blk_frozen (blk_alloc (blk_below C1.out B1.out) o) 1
  have k2 : ∀ o o2 : Obj, ((w1.alloc o).alloc o2).frozen? ⟨w.heap.size + 1, 0, none⟩ = false := fun o o2 => blk_frozen (blk_alloc (blk_alloc (blk_below C1.out B1.out) o) o2) 0
  have k3 : ∀ o o2 : Obj, ((w1.alloc o).alloc o2).frozen? ⟨w.heap.size + 1, 1, none⟩ = false := fun o o2 => blk_frozen (blk_alloc (blk_alloc (blk_below C1.out B1.out) o) o2) 1
  have h1 : w1.drew.cell? ⟨w.heap.size, 0, none⟩ = some (.int .i64 0) ∧ w1.drew.cell? ⟨w.heap.size, 1, none⟩ = some (.int .i64 v) ∧ True := ⟨q0, q1, trivial⟩
  go_region_held3 (fun W => W.cell? ⟨w.heap.size, 0, none⟩ = some (.int .i64 0) ∧ W.cell? ⟨w.heap.size, 1, none⟩ = some (.int .i64 v) ∧ True) (first | exact h1 | go_keep) (fail)
  obtain ⟨r0, r1, rT, rM, rB⟩ := impl_LeastBits.fin w w1 1 1 0 v 0 (blk_below C1.out B1.out) (HB.out.trans (B1.out.mono HB.out.size)) _ rfl
  have hs := (HB.out.trans (B1.out.mono HB.out.size)).size
  have RR := Aside0.mk (And.intro rT (And.intro rM (And.intro hs rB)))
  rename_i hh
  clear f0 f1 f2 f3 k0 k1 k2 k3 h1 rT rM rB q0 q1 z0 z1 y0 y1 hs hh
  generalize World.drew _ = wx at r0 r1 RR ⊢
  go_wp2
  exact bodyPost_ret (v := .tuple #[.pointer (some ⟨w1.heap.size + 1, 0, none⟩), .agg #[.int .i64 1, .int .i64 1], .bool true]) (by simp [results, Try.results19, go_sem, r0, r1]) rfl ⟨_, _, rfl, RR.out.1, RR.out.2.1, RR.out.2.2.1, RR.out.2.2.2⟩
set_option maxHeartbeats 4000000 in
set_option maxRecDepth 100000 in
theorem impl_LeastBits.talk01 (v : Int) (hsp : impl_isSplit.f 1 v 0 = some true) (w : World) : Calls Try.prog 19 #[.agg #[.int .i64 1, .int .i64 v], .int .i64 0] w fun e w' => ∃ T M, e = .returned (.tuple #[.pointer (some ⟨T, 0, none⟩), .agg #[.int .i64 1, .int .i64 3], .bool true]) ∧ w'.heap[T]? = some (.cells #[.int .i64 1, .int .i64 v, .int .i64 0, .map (some M)] 63 (0, 0)) ∧ w'.heap[M]? = some (.map #[] 0) ∧ w.heap.size ≤ M ∧ Below w.heap.size w w' := by
  have huT := Try.underlying25
  have huA := Try.underlying63
  have huS := Try.underlying43
  have hmk : ∀ W, (Instr.makeMap 61 none).run Try.prog W = .ok (.map (some W.heap.size)) (W.alloc (.map #[] 0)) := fun W => run_makeMap 61 W
  obtain ⟨W0, hW0⟩ : ∃ W0, W0 = (w.alloc (.cells #[.int .i64 1, .int .i64 v] 25)).alloc (.cells #[.int .i64 0, .int .i64 0] 43) := ⟨_, rfl⟩
  have HB : Aside0 (Below w.heap.size w W0) := ⟨by rw [hW0]; exact ((Below.refl _ _).alloc (Nat.le_refl _) _).alloc (by simp) _⟩
  have C0 : Aside0 (W0.heap[w.heap.size]? = some (.cells #[.int .i64 1, .int .i64 v] 25 (0, 0))) := ⟨by rw [hW0]; exact blk_alloc (blk_new w _) _⟩
  have C1 : Aside0 (W0.heap[w.heap.size + 1]? = some (.cells #[.int .i64 0, .int .i64 0] 43 (0, 0))) := ⟨by
    rw [hW0]; have := blk_new (w.alloc (.cells #[.int .i64 1, .int .i64 v] 25)) (.cells #[.int .i64 0, .int .i64 0] 43)
    simpa using this⟩
  have CW := Aside0.mk hW0
  have HSP := Aside0.mk hsp
  clear hW0 hsp
  have wi0 : IntKind.i64.wrap 0 = 0 := by decide
  have wi1 : IntKind.i64.wrap 1 = 1 := by decide
  have wi2 : IntKind.i64.wrap 2 = 2 := by decide
  have wi3 : IntKind.i64.wrap 3 = 3 := by decide
  have wi4 : IntKind.i64.wrap 4 = 4 := by decide
  have wi15 : IntKind.i64.wrap 15 = 15 := by decide
  have wi16 : IntKind.i64.wrap 16 = 16 := by decide
  have wu1 : IntKind.u64.wrap 1 = 1 := by decide
  have wu2 : IntKind.u64.wrap 2 = 2 := by decide
  have wu4 : IntKind.u64.wrap 4 = 4 := by decide
  go_enter Try.func19, Try.ntmps19
  go_wp2_with (first | (go_at_call 35; rw [← CW.out]; (with_reducible refine (impl_isSplit.calls _ _ _ _ _ HSP.out).mono ?_); rintro e w1 ⟨rfl, hb⟩; have B1 := Aside0.mk hb; clear hb; have q0 := blk_cell (blk_below C0.out B1.out) 0; have q1 := blk_cell (blk_below C0.out B1.out) 1; have z0 := blk_cell (blk_below C1.out B1.out) 0; have z1 := blk_cell (blk_below C1.out B1.out) 1; have y0 := blk_frozen (blk_below C1.out B1.out) 0; have y1 := blk_frozen (blk_below C1.out B1.out) 1; have nlt := blk_lt (blk_below C1.out B1.out); have n1 : w.heap.size + 1 ≠ w1.heap.size := (by omega); have n2 : w.heap.size ≠ w1.heap.size := (by omega); have n3 : w.heap.size ≠ w1.heap.size + 1 := (by omega)))
  have f0 : ∀ o : Obj, (w1.alloc o).cell? ⟨w.heap.size + 1, 0, none⟩ = some (.int .i64 0) := fun o => blk_cell (blk_alloc (blk_below C1.out B1.out) o) 0
  have f1 : ∀ o : Obj, (w1.alloc o).cell? ⟨w.heap.size + 1, 1, none⟩ = some (.int .i64 0) := fun o => blk_cell (blk_alloc (blk_below C1.out B1.out) o) 1
  have f2 : ∀ o o2 : Obj, ((w1.alloc o).alloc o2).cell? ⟨w.heap.size + 1, 0, none⟩ = some (.int .i64 0) := fun o o2 => blk_cell (blk_alloc (blk_alloc (blk_below C1.out B1.out) o) o2) 0
  have f3 : ∀ o o2 : Obj, ((w1.alloc o).alloc o2).cell? ⟨w.heap.size + 1, 1, none⟩ = some (.int .i64 0) := fun o o2 => blk_cell (blk_alloc (blk_alloc (blk_below C1.out B1.out) o) o2) 1
  have k0 : ∀ o : Obj, (w1.alloc o).frozen? ⟨w.heap.size + 1, 0, none⟩ = false := fun o => blk_frozen (blk_alloc (blk_below C1.out B1.out) o) 0
  have k1 : ∀ o : Obj, (w1.alloc o).frozen? ⟨w.heap.size + 1, 1, none⟩ = false := fun o => blk_frozen (blk_alloc (blk_below C1.out B1.out) o) 1
  have k2 : ∀ o o2 : Obj, ((w1.alloc o).alloc o2).frozen? ⟨w.heap.size + 1, 0, none⟩ = false := fun o o2 => blk_frozen (blk_alloc (blk_alloc (blk_below C1.out B1.out) o) o2) 0
  have k3 : ∀ o o2 : Obj, ((w1.alloc o).alloc o2).frozen? ⟨w.heap.size + 1, 1, none⟩ = false := fun o o2 => blk_frozen (blk_alloc (blk_alloc (blk_below C1.out B1.out) o) o2) 1
  have h1 : w1.drew.cell? ⟨w.heap.size, 0, none⟩ = some (.int .i64 1) ∧ w1.drew.cell? ⟨w.heap.size, 1, none⟩ = some (.int .i64 v) ∧ True := ⟨q0, q1, trivial⟩
  go_region_held3 (fun W => W.cell? ⟨w.heap.size, 0, none⟩ = some (.int .i64 1) ∧ W.cell? ⟨w.heap.size, 1, none⟩ = some (.int .i64 v) ∧ True) (first | exact h1 | go_keep) (fail)
  obtain ⟨r0, r1, rT, rM, rB⟩ := impl_LeastBits.fin w w1 1 3 1 v 0 (blk_below C1.out B1.out) (HB.out.trans (B1.out.mono HB.out.size)) _ rfl
  have hs := (HB.out.trans (B1.out.mono HB.out.size)).size
  have RR := Aside0.mk (And.intro rT (And.intro rM (And.intro hs rB)))
  rename_i hh
  clear f0 f1 f2 f3 k0 k1 k2 k3 h1 rT rM rB q0 q1 z0 z1 y0 y1 hs hh
  generalize World.drew _ = wx at r0 r1 RR ⊢
  go_wp2
  exact bodyPost_ret (v := .tuple #[.pointer (some ⟨w1.heap.size + 1, 0, none⟩), .agg #[.int .i64 1, .int .i64 3], .bool true]) (by simp [results, Try.results19, go_sem, r0, r1]) rfl ⟨_, _, rfl, RR.out.1, RR.out.2.1, RR.out.2.2.1, RR.out.2.2.2⟩
set_option maxHeartbeats 4000000 in
set_option maxRecDepth 100000 in
theorem impl_LeastBits.talk02 (v : Int) (hsp : impl_isSplit.f 2 v 0 = some true) (w : World) : Calls Try.prog 19 #[.agg #[.int .i64 2, .int .i64 v], .int .i64 0] w fun e w' => ∃ T M, e = .returned (.tuple #[.pointer (some ⟨T, 0, none⟩), .agg #[.int .i64 1, .int .i64 15], .bool true]) ∧ w'.heap[T]? = some (.cells #[.int .i64 2, .int .i64 v, .int .i64 0, .map (some M)] 63 (0, 0)) ∧ w'.heap[M]? = some (.map #[] 0) ∧ w.heap.size ≤ M ∧ Below w.heap.size w w' := by
  have huT := Try.underlying25
  have huA := Try.underlying63
  have huS := Try.underlying43
  have hmk : ∀ W, (Instr.makeMap 61 none).run Try.prog W = .ok (.map (some W.heap.size)) (W.alloc (.map #[] 0)) := fun W => run_makeMap 61 W
  obtain ⟨W0, hW0⟩ : ∃ W0, W0 = (w.alloc (.cells #[.int .i64 2, .int .i64 v] 25)).alloc (.cells #[.int .i64 0, .int .i64 0] 43) := ⟨_, rfl⟩
  have HB : Aside0 (Below w.heap.size w W0) := ⟨by rw [hW0]; exact ((Below.refl _ _).alloc (Nat.le_refl _) _).alloc (by simp) _⟩
  have C0 : Aside0 (W0.heap[w.heap.size]? = some (.cells #[.int .i64 2, .int .i64 v] 25 (0, 0))) := ⟨by rw [hW0]; exact blk_alloc (blk_new w _) _⟩
  have C1 : Aside0 (W0.heap[w.heap.size + 1]? = some (.cells #[.int .i64 0, .int .i64 0] 43 (0, 0))) := ⟨by
    rw [hW0]; have := blk_new (w.alloc (.cells #[.int .i64 2, .int .i64 v] 25)) (.cells #[.int .i64 0, .int .i64 0] 43)
    simpa using this⟩
  have CW := Aside0.mk hW0
  have HSP := Aside0.mk hsp
  clear hW0 hsp
  have wi0 : IntKind.i64.wrap 0 = 0 := by decide
  have wi1 : IntKind.i64.wrap 1 = 1 := by decide
  have wi2 : IntKind.i64.wrap 2 = 2 := by decide
  have wi3 : IntKind.i64.wrap 3 = 3 := by decide
  have wi4 : IntKind.i64.wrap 4 = 4 := by decide
  have wi15 : IntKind.i64.wrap 15 = 15 := by decide
  have wi16 : IntKind.i64.wrap 16 = 16 := by decide
  have wu1 : IntKind.u64.wrap 1 = 1 := by decide
  have wu2 : IntKind.u64.wrap 2 = 2 := by decide
  have wu4 : IntKind.u64.wrap 4 = 4 := by decide
  go_enter Try.func19, Try.ntmps19
  go_wp2_with (first | (go_at_call 35; rw [← CW.out]; (with_reducible refine (impl_isSplit.calls _ _ _ _ _ HSP.out).mono ?_); rintro e w1 ⟨rfl, hb⟩; have B1 := Aside0.mk hb; clear hb; have q0 := blk_cell (blk_below C0.out B1.out) 0; have q1 := blk_cell (blk_below C0.out B1.out) 1; have z0 := blk_cell (blk_below C1.out B1.out) 0; have z1 := blk_cell (blk_below C1.out B1.out) 1; have y0 := blk_frozen (blk_below C1.out B1.out) 0; have y1 := blk_frozen (blk_below C1.out B1.out) 1; have nlt := blk_lt (blk_below C1.out B1.out); have n1 : w.heap.size + 1 ≠ w1.heap.size := (by omega); have n2 : w.heap.size ≠ w1.heap.size := (by omega); have n3 : w.heap.size ≠ w1.heap.size + 1 := (by omega)))
  have f0 : ∀ o : Obj, (w1.alloc o).cell? ⟨w.heap.size + 1, 0, none⟩ = some (.int .i64 0) := fun o => blk_cell (blk_alloc (blk_below C1.out B1.out) o) 0
  have f1 : ∀ o : Obj, (w1.alloc o).cell? ⟨w.heap.size + 1, 1, none⟩ = some (.int .i64 0) := fun o => blk_cell (blk_alloc (blk_below C1.out B1.out) o) 1
  have f2 : ∀ o o2 : Obj, ((w1.alloc o).alloc o2).cell? ⟨w.heap.size + 1, 0, none⟩ = some (.int .i64 0) := fun o o2 => blk_cell (blk_alloc (blk_alloc (blk_below C1.out B1.out) o) o2) 0
  have f3 : ∀ o o2 : Obj, ((w1.alloc o).alloc o2).cell? ⟨w.heap.size + 1, 1, none⟩ = some (.int .i64 0) := fun o o2 => blk_cell (blk_alloc (blk_alloc (blk_below C1.out B1.out) o) o2) 1
  have k0 : ∀ o : Obj, (w1.alloc o).frozen? ⟨w.heap.size + 1, 0, none⟩ = false := fun o => blk_frozen (blk_alloc (blk_below C1.out B1.out) o) 0
  have k1 : ∀ o : Obj, (w1.alloc o).frozen? ⟨w.heap.size + 1, 1, none⟩ = false := fun o => blk_frozen (blk_alloc (blk_below C1.out B1.out) o) 1
  have k2 : ∀ o o2 : Obj, ((w1.alloc o).alloc o2).frozen? ⟨w.heap.size + 1, 0, none⟩ = false := fun o o2 => blk_frozen (blk_alloc (blk_alloc (blk_below C1.out B1.out) o) o2) 0
  have k3 : ∀ o o2 : Obj, ((w1.alloc o).alloc o2).frozen? ⟨w.heap.size + 1, 1, none⟩ = false := fun o o2 => blk_frozen (blk_alloc (blk_alloc (blk_below C1.out B1.out) o) o2) 1
  have h1 : w1.drew.cell? ⟨w.heap.size, 0, none⟩ = some (.int .i64 2) ∧ w1.drew.cell? ⟨w.heap.size, 1, none⟩ = some (.int .i64 v) ∧ True := ⟨q0, q1, trivial⟩
  go_region_held3 (fun W => W.cell? ⟨w.heap.size, 0, none⟩ = some (.int .i64 2) ∧ W.cell? ⟨w.heap.size, 1, none⟩ = some (.int .i64 v) ∧ True) (first | exact h1 | go_keep) (fail)
  obtain ⟨r0, r1, rT, rM, rB⟩ := impl_LeastBits.fin w w1 1 15 2 v 0 (blk_below C1.out B1.out) (HB.out.trans (B1.out.mono HB.out.size)) _ rfl
  have hs := (HB.out.trans (B1.out.mono HB.out.size)).size
  have RR := Aside0.mk (And.intro rT (And.intro rM (And.intro hs rB)))
  rename_i hh
  clear f0 f1 f2 f3 k0 k1 k2 k3 h1 rT rM rB q0 q1 z0 z1 y0 y1 hs hh
  generalize World.drew _ = wx at r0 r1 RR ⊢
  go_wp2
  exact bodyPost_ret (v := .tuple #[.pointer (some ⟨w1.heap.size + 1, 0, none⟩), .agg #[.int .i64 1, .int .i64 15], .bool true]) (by simp [results, Try.results19, go_sem, r0, r1]) rfl ⟨_, _, rfl, RR.out.1, RR.out.2.1, RR.out.2.2.1, RR.out.2.2.2⟩
set_option maxHeartbeats 4000000 in
set_option maxRecDepth 100000 in
theorem impl_LeastBits.talk10 (v : Int) (hsp : impl_isSplit.f 1 v 1 = some true) (w : World) : Calls Try.prog 19 #[.agg #[.int .i64 1, .int .i64 v], .int .i64 1] w fun e w' => ∃ T M, e = .returned (.tuple #[.pointer (some ⟨T, 0, none⟩), .agg #[.int .i64 3, .int .i64 1], .bool true]) ∧ w'.heap[T]? = some (.cells #[.int .i64 1, .int .i64 v, .int .i64 1, .map (some M)] 63 (0, 0)) ∧ w'.heap[M]? = some (.map #[] 0) ∧ w.heap.size ≤ M ∧ Below w.heap.size w w' := by
  have huT := Try.underlying25
  have huA := Try.underlying63
  have huS := Try.underlying43
  have hmk : ∀ W, (Instr.makeMap 61 none).run Try.prog W = .ok (.map (some W.heap.size)) (W.alloc (.map #[] 0)) := fun W => run_makeMap 61 W
  obtain ⟨W0, hW0⟩ : ∃ W0, W0 = (w.alloc (.cells #[.int .i64 1, .int .i64 v] 25)).alloc (.cells #[.int .i64 0, .int .i64 0] 43) := ⟨_, rfl⟩
  have HB : Aside0 (Below w.heap.size w W0) := ⟨by rw [hW0]; exact ((Below.refl _ _).alloc (Nat.le_refl _) _).alloc (by simp) _⟩
  have C0 : Aside0 (W0.heap[w.heap.size]? = some (.cells #[.int .i64 1, .int .i64 v] 25 (0, 0))) := ⟨by rw [hW0]; exact blk_alloc (blk_new w _) _⟩
  have C1 : Aside0 (W0.heap[w.heap.size + 1]? = some (.cells #[.int .i64 0, .int .i64 0] 43 (0, 0))) := ⟨by
    rw [hW0]; have := blk_new (w.alloc (.cells #[.int .i64 1, .int .i64 v] 25)) (.cells #[.int .i64 0, .int .i64 0] 43)
    simpa using this⟩
  have CW := Aside0.mk hW0
  have HSP := Aside0.mk hsp
  clear hW0 hsp
  have wi0 : IntKind.i64.wrap 0 = 0 := by decide
  have wi1 : IntKind.i64.wrap 1 = 1 := by decide
  have wi2 : IntKind.i64.wrap 2 = 2 := by decide
  have wi3 : IntKind.i64.wrap 3 = 3 := by decide
  have wi4 : IntKind.i64.wrap 4 = 4 := by decide
  have wi15 : IntKind.i64.wrap 15 = 15 := by decide
  have wi16 : IntKind.i64.wrap 16 = 16 := by decide
  have wu1 : IntKind.u64.wrap 1 = 1 := by decide
  have wu2 : IntKind.u64.wrap 2 = 2 := by decide
  have wu4 : IntKind.u64.wrap 4 = 4 := by decide
  go_enter Try.func19, Try.ntmps19
  go_wp2_with (first | (go_at_call 35; rw [← CW.out]; (with_reducible refine (impl_isSplit.calls _ _ _ _ _ HSP.out).mono ?_); rintro e w1 ⟨rfl, hb⟩; have B1 := Aside0.mk hb; clear hb; have q0 := blk_cell (blk_below C0.out B1.out) 0; have q1 := blk_cell (blk_below C0.out B1.out) 1; have z0 := blk_cell (blk_below C1.out B1.out) 0; have z1 := blk_cell (blk_below C1.out B1.out) 1; have y0 := blk_frozen (blk_below C1.out B1.out) 0; have y1 := blk_frozen (blk_below C1.out B1.out) 1; have nlt := blk_lt (blk_below C1.out B1.out); have n1 : w.heap.size + 1 ≠ w1.heap.size := (by omega); have n2 : w.heap.size ≠ w1.heap.size := (by omega); have n3 : w.heap.size ≠ w1.heap.size + 1 := (by omega)))
  have f0 : ∀ o : Obj, (w1.alloc o).cell? ⟨w.heap.size + 1, 0, none⟩ = some (.int .i64 0) := fun o => blk_cell (blk_alloc (blk_below C1.out B1.out) o) 0
  have f1 : ∀ o : Obj, (w1.alloc o).cell? ⟨w.heap.size + 1, 1, none⟩ = some (.int .i64 0) := fun o => blk_cell (blk_alloc (blk_below C1.out B1.out) o) 1
  have f2 : ∀ o o2 : Obj, ((w1.alloc o).alloc o2).cell? ⟨w.heap.size + 1, 0, none⟩ = some (.int .i64 0) := fun o o2 => blk_cell (blk_alloc (blk_alloc (blk_below C1.out B1.out) o) o2) 0
  have f3 : ∀ o o2 : Obj, ((w1.alloc o).alloc o2).cell? ⟨w.heap.size + 1, 1, none⟩ = some (.int .i64 0) := fun o o2 => blk_cell (blk_alloc (blk_alloc (blk_below C1.out B1.out) o) o2) 1
  have k0 : ∀ o : Obj, (w1.alloc o).frozen? ⟨w.heap.size + 1, 0, none⟩ = false := fun o => blk_frozen (blk_alloc (blk_below C1.out B1.out) o) 0
  have k1 : ∀ o : Obj, (w1.alloc o).frozen? ⟨w.heap.size + 1, 1, none⟩ = false := fun o => blk_frozen (blk_alloc (blk_below C1.out B1.out) o) 1
  have k2 : ∀ o o2 : Obj, ((w1.alloc o).alloc o2).frozen? ⟨w.heap.size + 1, 0, none⟩ = false := fun o o2 => blk_frozen (blk_alloc (blk_alloc (blk_below C1.out B1.out) o) o2) 0
  have k3 : ∀ o o2 : Obj, ((w1.alloc o).alloc o2).frozen? ⟨w.heap.size + 1, 1, none⟩ = false := fun o o2 => blk_frozen (blk_alloc (blk_alloc (blk_below C1.out B1.out) o) o2) 1
  have h1 : w1.drew.cell? ⟨w.heap.size, 0, none⟩ = some (.int .i64 1) ∧ w1.drew.cell? ⟨w.heap.size, 1, none⟩ = some (.int .i64 v) ∧ True := ⟨q0, q1, trivial⟩
  go_region_held3 (fun W => W.cell? ⟨w.heap.size, 0, none⟩ = some (.int .i64 1) ∧ W.cell? ⟨w.heap.size, 1, none⟩ = some (.int .i64 v) ∧ True) (first | exact h1 | go_keep) (fail)
  obtain ⟨r0, r1, rT, rM, rB⟩ := impl_LeastBits.fin w w1 3 1 1 v 1 (blk_below C1.out B1.out) (HB.out.trans (B1.out.mono HB.out.size)) _ rfl
  have hs := (HB.out.trans (B1.out.mono HB.out.size)).size
  have RR := Aside0.mk (And.intro rT (And.intro rM (And.intro hs rB)))
  rename_i hh
  clear f0 f1 f2 f3 k0 k1 k2 k3 h1 rT rM rB q0 q1 z0 z1 y0 y1 hs hh
  generalize World.drew _ = wx at r0 r1 RR ⊢
  go_wp2
  exact bodyPost_ret (v := .tuple #[.pointer (some ⟨w1.heap.size + 1, 0, none⟩), .agg #[.int .i64 3, .int .i64 1], .bool true]) (by simp [results, Try.results19, go_sem, r0, r1]) rfl ⟨_, _, rfl, RR.out.1, RR.out.2.1, RR.out.2.2.1, RR.out.2.2.2⟩
set_option maxHeartbeats 4000000 in
set_option maxRecDepth 100000 in
theorem impl_LeastBits.talk11 (v : Int) (hsp : impl_isSplit.f 2 v 1 = some true) (w : World) : Calls Try.prog 19 #[.agg #[.int .i64 2, .int .i64 v], .int .i64 1] w fun e w' => ∃ T M, e = .returned (.tuple #[.pointer (some ⟨T, 0, none⟩), .agg #[.int .i64 3, .int .i64 3], .bool true]) ∧ w'.heap[T]? = some (.cells #[.int .i64 2, .int .i64 v, .int .i64 1, .map (some M)] 63 (0, 0)) ∧ w'.heap[M]? = some (.map #[] 0) ∧ w.heap.size ≤ M ∧ Below w.heap.size w w' := by
  have huT := Try.underlying25
  have huA := Try.underlying63
  have huS := Try.underlying43
  have hmk : ∀ W, (Instr.makeMap 61 none).run Try.prog W = .ok (.map (some W.heap.size)) (W.alloc (.map #[] 0)) := fun W => run_makeMap 61 W
  obtain ⟨W0, hW0⟩ : ∃ W0, W0 = (w.alloc (.cells #[.int .i64 2, .int .i64 v] 25)).alloc (.cells #[.int .i64 0, .int .i64 0] 43) := ⟨_, rfl⟩
  have HB : Aside0 (Below w.heap.size w W0) := ⟨by rw [hW0]; exact ((Below.refl _ _).alloc (Nat.le_refl _) _).alloc (by simp) _⟩
  have C0 : Aside0 (W0.heap[w.heap.size]? = some (.cells #[.int .i64 2, .int .i64 v] 25 (0, 0))) := ⟨by rw [hW0]; exact blk_alloc (blk_new w _) _⟩
  have C1 : Aside0 (W0.heap[w.heap.size + 1]? = some (.cells #[.int .i64 0, .int .i64 0] 43 (0, 0))) := ⟨by
    rw [hW0]; have := blk_new (w.alloc (.cells #[.int .i64 2, .int .i64 v] 25)) (.cells #[.int .i64 0, .int .i64 0] 43)
    simpa using this⟩
  have CW := Aside0.mk hW0
  have HSP := Aside0.mk hsp
  clear hW0 hsp
  have wi0 : IntKind.i64.wrap 0 = 0 := by decide
  have wi1 : IntKind.i64.wrap 1 = 1 := by decide
  have wi2 : IntKind.i64.wrap 2 = 2 := by decide
  have wi3 : IntKind.i64.wrap 3 = 3 := by decide
  have wi4 : IntKind.i64.wrap 4 = 4 := by decide
  have wi15 : IntKind.i64.wrap 15 = 15 := by decide
  have wi16 : IntKind.i64.wrap 16 = 16 := by decide
  have wu1 : IntKind.u64.wrap 1 = 1 := by decide
  have wu2 : IntKind.u64.wrap 2 = 2 := by decide
  have wu4 : IntKind.u64.wrap 4 = 4 := by decide
  go_enter Try.func19, Try.ntmps19
  go_wp2_with (first | (go_at_call 35; rw [← CW.out]; (with_reducible refine (impl_isSplit.calls _ _ _ _ _ HSP.out).mono ?_); rintro e w1 ⟨rfl, hb⟩; have B1 := Aside0.mk hb; clear hb; have q0 := blk_cell (blk_below C0.out B1.out) 0; have q1 := blk_cell (blk_below C0.out B1.out) 1; have z0 := blk_cell (blk_below C1.out B1.out) 0; have z1 := blk_cell (blk_below C1.out B1.out) 1; have y0 := blk_frozen (blk_below C1.out B1.out) 0; have y1 := blk_frozen (blk_below C1.out B1.out) 1; have nlt := blk_lt (blk_below C1.out B1.out); have n1 : w.heap.size + 1 ≠ w1.heap.size := (by omega); have n2 : w.heap.size ≠ w1.heap.size := (by omega); have n3 : w.heap.size ≠ w1.heap.size + 1 := (by omega)))
  have f0 : ∀ o : Obj, (w1.alloc o).cell? ⟨w.heap.size + 1, 0, none⟩ = some (.int .i64 0) := fun o => blk_cell (blk_alloc (blk_below C1.out B1.out) o) 0
  have f1 : ∀ o : Obj, (w1.alloc o).cell? ⟨w.heap.size + 1, 1, none⟩ = some (.int .i64 0) := fun o => blk_cell (blk_alloc (blk_below C1.out B1.out) o) 1
  have f2 : ∀ o o2 : Obj, ((w1.alloc o).alloc o2).cell? ⟨w.heap.size + 1, 0, none⟩ = some (.int .i64 0) := fun o o2 => blk_cell (blk_alloc (blk_alloc (blk_below C1.out B1.out) o) o2) 0
  have f3 : ∀ o o2 : Obj, ((w1.alloc o).alloc o2).cell? ⟨w.heap.size + 1, 1, none⟩ = some (.int .i64 0) := fun o o2 => blk_cell (blk_alloc (blk_alloc (blk_below C1.out B1.out) o) o2) 1
  have k0 : ∀ o : Obj, (w1.alloc o).frozen? ⟨w.heap.size + 1, 0, none⟩ = false := fun o => blk_frozen (blk_alloc (blk_below C1.out B1.out) o) 0
  have k1 : ∀ o : Obj, (w1.alloc o).frozen? ⟨w.heap.size + 1, 1, none⟩ = false := fun o => blk_frozen (blk_alloc (blk_below C1.out B1.out) o) 1
  have k2 : ∀ o o2 : Obj, ((w1.alloc o).alloc o2).frozen? ⟨w.heap.size + 1, 0, none⟩ = false := fun o o2 => blk_frozen (blk_alloc (blk_alloc (blk_below C1.out B1.out) o) o2) 0
  have k3 : ∀ o o2 : Obj, ((w1.alloc o).alloc o2).frozen? ⟨w.heap.size + 1, 1, none⟩ = false := fun o o2 => blk_frozen (blk_alloc (blk_alloc (blk_below C1.out B1.out) o) o2) 1
  have h1 : w1.drew.cell? ⟨w.heap.size, 0, none⟩ = some (.int .i64 2) ∧ w1.drew.cell? ⟨w.heap.size, 1, none⟩ = some (.int .i64 v) ∧ True := ⟨q0, q1, trivial⟩
  go_region_held3 (fun W => W.cell? ⟨w.heap.size, 0, none⟩ = some (.int .i64 2) ∧ W.cell? ⟨w.heap.size, 1, none⟩ = some (.int .i64 v) ∧ True) (first | exact h1 | go_keep) (fail)
  obtain ⟨r0, r1, rT, rM, rB⟩ := impl_LeastBits.fin w w1 3 3 2 v 1 (blk_below C1.out B1.out) (HB.out.trans (B1.out.mono HB.out.size)) _ rfl
  have hs := (HB.out.trans (B1.out.mono HB.out.size)).size
  have RR := Aside0.mk (And.intro rT (And.intro rM (And.intro hs rB)))
  rename_i hh
  clear f0 f1 f2 f3 k0 k1 k2 k3 h1 rT rM rB q0 q1 z0 z1 y0 y1 hs hh
  generalize World.drew _ = wx at r0 r1 RR ⊢
  go_wp2
  exact bodyPost_ret (v := .tuple #[.pointer (some ⟨w1.heap.size + 1, 0, none⟩), .agg #[.int .i64 3, .int .i64 3], .bool true]) (by simp [results, Try.results19, go_sem, r0, r1]) rfl ⟨_, _, rfl, RR.out.1, RR.out.2.1, RR.out.2.2.1, RR.out.2.2.2⟩
set_option maxHeartbeats 4000000 in
set_option maxRecDepth 100000 in
theorem impl_LeastBits.talk12 (v : Int) (hsp : impl_isSplit.f 3 v 1 = some true) (w : World) : Calls Try.prog 19 #[.agg #[.int .i64 3, .int .i64 v], .int .i64 1] w fun e w' => ∃ T M, e = .returned (.tuple #[.pointer (some ⟨T, 0, none⟩), .agg #[.int .i64 3, .int .i64 15], .bool true]) ∧ w'.heap[T]? = some (.cells #[.int .i64 3, .int .i64 v, .int .i64 1, .map (some M)] 63 (0, 0)) ∧ w'.heap[M]? = some (.map #[] 0) ∧ w.heap.size ≤ M ∧ Below w.heap.size w w' := by
  have huT := Try.underlying25
  have huA := Try.underlying63
  have huS := Try.underlying43
  have hmk : ∀ W, (Instr.makeMap 61 none).run Try.prog W = .ok (.map (some W.heap.size)) (W.alloc (.map #[] 0)) := fun W => run_makeMap 61 W
  obtain ⟨W0, hW0⟩ : ∃ W0, W0 = (w.alloc (.cells #[.int .i64 3, .int .i64 v] 25)).alloc (.cells #[.int .i64 0, .int .i64 0] 43) := ⟨_, rfl⟩
  have HB : Aside0 (Below w.heap.size w W0) := ⟨by rw [hW0]; exact ((Below.refl _ _).alloc (Nat.le_refl _) _).alloc (by simp) _⟩
  have C0 : Aside0 (W0.heap[w.heap.size]? = some (.cells #[.int .i64 3, .int .i64 v] 25 (0, 0))) := ⟨by rw [hW0]; exact blk_alloc (blk_new w _) _⟩
  have C1 : Aside0 (W0.heap[w.heap.size + 1]? = some (.cells #[.int .i64 0, .int .i64 0] 43 (0, 0))) := ⟨by
    rw [hW0]; have := blk_new (w.alloc (.cells #[.int .i64 3, .int .i64 v] 25)) (.cells #[.int .i64 0, .int .i64 0] 43)
    simpa using this⟩
  have CW := Aside0.mk hW0
  have HSP := Aside0.mk hsp
  clear hW0 hsp
  have wi0 : IntKind.i64.wrap 0 = 0 := by decide
  have wi1 : IntKind.i64.wrap 1 = 1 := by decide
  have wi2 : IntKind.i64.wrap 2 = 2 := by decide
  have wi3 : IntKind.i64.wrap 3 = 3 := by decide
  have wi4 : IntKind.i64.wrap 4 = 4 := by decide
  have wi15 : IntKind.i64.wrap 15 = 15 := by decide
  have wi16 : IntKind.i64.wrap 16 = 16 := by decide
  have wu1 : IntKind.u64.wrap 1 = 1 := by decide
  have wu2 : IntKind.u64.wrap 2 = 2 := by decide
  have wu4 : IntKind.u64.wrap 4 = 4 := by decide
  go_enter Try.func19, Try.ntmps19
  go_wp2_with (first | (go_at_call 35; rw [← CW.out]; (with_reducible refine (impl_isSplit.calls _ _ _ _ _ HSP.out).mono ?_); rintro e w1 ⟨rfl, hb⟩; have B1 := Aside0.mk hb; clear hb; have q0 := blk_cell (blk_below C0.out B1.out) 0; have q1 := blk_cell (blk_below C0.out B1.out) 1; have z0 := blk_cell (blk_below C1.out B1.out) 0; have z1 := blk_cell (blk_below C1.out B1.out) 1; have y0 := blk_frozen (blk_below C1.out B1.out) 0; have y1 := blk_frozen (blk_below C1.out B1.out) 1; have nlt := blk_lt (blk_below C1.out B1.out); have n1 : w.heap.size + 1 ≠ w1.heap.size := (by omega); have n2 : w.heap.size ≠ w1.heap.size := (by omega); have n3 : w.heap.size ≠ w1.heap.size + 1 := (by omega)))
  have f0 : ∀ o : Obj, (w1.alloc o).cell? ⟨w.heap.size + 1, 0, none⟩ = some (.int .i64 0) := fun o => blk_cell (blk_alloc (blk_below C1.out B1.out) o) 0
  have f1 : ∀ o : Obj, (w1.alloc o).cell? ⟨w.heap.size + 1, 1, none⟩ = some (.int .i64 0) := fun o => blk_cell (blk_alloc (blk_below C1.out B1.out) o) 1
  have f2 : ∀ o o2 : Obj, ((w1.alloc o).alloc o2).cell? ⟨w.heap.size + 1, 0, none⟩ = some (.int .i64 0) := fun o o2 => blk_cell (blk_alloc (blk_alloc (blk_below C1.out B1.out) o) o2) 0
  have f3 : ∀ o o2 : Obj, ((w1.alloc o).alloc o2).cell? ⟨w.heap.size + 1, 1, none⟩ = some (.int .i64 0) := fun o o2 => blk_cell (blk_alloc (blk_alloc (blk_below C1.out B1.out) o) o2) 1
  have k0 : ∀ o : Obj, (w1.alloc o).frozen? ⟨w.heap.size + 1, 0, none⟩ = false := fun o => blk_frozen (blk_alloc (blk_below C1.out B1.out) o) 0
  have k1 : ∀ o : Obj, (w1.alloc o).frozen? ⟨w.heap.size + 1, 1, none⟩ = false := fun o => blk_frozen (blk_alloc (blk_below C1.out B1.out) o) 1
  have k2 : ∀ o o2 : Obj, ((w1.alloc o).alloc o2).frozen? ⟨w.heap.size + 1, 0, none⟩ = false := fun o o2 => blk_frozen (blk_alloc (blk_alloc (blk_below C1.out B1.out) o) o2) 0
  have k3 : ∀ o o2 : Obj, ((w1.alloc o).alloc o2).frozen? ⟨w.heap.size + 1, 1, none⟩ = false := fun o o2 => blk_frozen (blk_alloc (blk_alloc (blk_below C1.out B1.out) o) o2) 1
  have h1 : w1.drew.cell? ⟨w.heap.size, 0, none⟩ = some (.int .i64 3) ∧ w1.drew.cell? ⟨w.heap.size, 1, none⟩ = some (.int .i64 v) ∧ True := ⟨q0, q1, trivial⟩
  go_region_held3 (fun W => W.cell? ⟨w.heap.size, 0, none⟩ = some (.int .i64 3) ∧ W.cell? ⟨w.heap.size, 1, none⟩ = some (.int .i64 v) ∧ True) (first | exact h1 | go_keep) (fail)
  obtain ⟨r0, r1, rT, rM, rB⟩ := impl_LeastBits.fin w w1 3 15 3 v 1 (blk_below C1.out B1.out) (HB.out.trans (B1.out.mono HB.out.size)) _ rfl
  have hs := (HB.out.trans (B1.out.mono HB.out.size)).size
  have RR := Aside0.mk (And.intro rT (And.intro rM (And.intro hs rB)))
  rename_i hh
  clear f0 f1 f2 f3 k0 k1 k2 k3 h1 rT rM rB q0 q1 z0 z1 y0 y1 hs hh
  generalize World.drew _ = wx at r0 r1 RR ⊢
  go_wp2
  exact bodyPost_ret (v := .tuple #[.pointer (some ⟨w1.heap.size + 1, 0, none⟩), .agg #[.int .i64 3, .int .i64 15], .bool true]) (by simp [results, Try.results19, go_sem, r0, r1]) rfl ⟨_, _, rfl, RR.out.1, RR.out.2.1, RR.out.2.2.1, RR.out.2.2.2⟩
set_option maxHeartbeats 4000000 in
set_option maxRecDepth 100000 in
theorem impl_LeastBits.talk20 (v : Int) (hsp : impl_isSplit.f 2 v 2 = some true) (w : World) : Calls Try.prog 19 #[.agg #[.int .i64 2, .int .i64 v], .int .i64 2] w fun e w' => ∃ T M, e = .returned (.tuple #[.pointer (some ⟨T, 0, none⟩), .agg #[.int .i64 15, .int .i64 1], .bool true]) ∧ w'.heap[T]? = some (.cells #[.int .i64 2, .int .i64 v, .int .i64 2, .map (some M)] 63 (0, 0)) ∧ w'.heap[M]? = some (.map #[] 0) ∧ w.heap.size ≤ M ∧ Below w.heap.size w w' := by
  have huT := Try.underlying25
  have huA := Try.underlying63
  have huS := Try.underlying43
  have hmk : ∀ W, (Instr.makeMap 61 none).run Try.prog W = .ok (.map (some W.heap.size)) (W.alloc (.map #[] 0)) := fun W => run_makeMap 61 W
  obtain ⟨W0, hW0⟩ : ∃ W0, W0 = (w.alloc (.cells #[.int .i64 2, .int .i64 v] 25)).alloc (.cells #[.int .i64 0, .int .i64 0] 43) := ⟨_, rfl⟩
  have HB : Aside0 (Below w.heap.size w W0) := ⟨by rw [hW0]; exact ((Below.refl _ _).alloc (Nat.le_refl _) _).alloc (by simp) _⟩
  have C0 : Aside0 (W0.heap[w.heap.size]? = some (.cells #[.int .i64 2, .int .i64 v] 25 (0, 0))) := ⟨by rw [hW0]; exact blk_alloc (blk_new w _) _⟩
  have C1 : Aside0 (W0.heap[w.heap.size + 1]? = some (.cells #[.int .i64 0, .int .i64 0] 43 (0, 0))) := ⟨by
    rw [hW0]; have := blk_new (w.alloc (.cells #[.int .i64 2, .int .i64 v] 25)) (.cells #[.int .i64 0, .int .i64 0] 43)
    simpa using this⟩
  have CW := Aside0.mk hW0
  have HSP := Aside0.mk hsp
  clear hW0 hsp
  have wi0 : IntKind.i64.wrap 0 = 0 := by decide
  have wi1 : IntKind.i64.wrap 1 = 1 := by decide
  have wi2 : IntKind.i64.wrap 2 = 2 := by decide
  have wi3 : IntKind.i64.wrap 3 = 3 := by decide
  have wi4 : IntKind.i64.wrap 4 = 4 := by decide
  have wi15 : IntKind.i64.wrap 15 = 15 := by decide
  have wi16 : IntKind.i64.wrap 16 = 16 := by decide
  have wu1 : IntKind.u64.wrap 1 = 1 := by decide
  have wu2 : IntKind.u64.wrap 2 = 2 := by decide
  have wu4 : IntKind.u64.wrap 4 = 4 := by decide
  go_enter Try.func19, Try.ntmps19
  go_wp2_with (first | (go_at_call 35; rw [← CW.out]; (with_reducible refine (impl_isSplit.calls _ _ _ _ _ HSP.out).mono ?_); rintro e w1 ⟨rfl, hb⟩; have B1 := Aside0.mk hb; clear hb; have q0 := blk_cell (blk_below C0.out B1.out) 0; have q1 := blk_cell (blk_below C0.out B1.out) 1; have z0 := blk_cell (blk_below C1.out B1.out) 0; have z1 := blk_cell (blk_below C1.out B1.out) 1; have y0 := blk_frozen (blk_below C1.out B1.out) 0; have y1 := blk_frozen (blk_below C1.out B1.out) 1; have nlt := blk_lt (blk_below C1.out B1.out); have n1 : w.heap.size + 1 ≠ w1.heap.size := (by omega); have n2 : w.heap.size ≠ w1.heap.size := (by omega); have n3 : w.heap.size ≠ w1.heap.size + 1 := (by omega)))
  have f0 : ∀ o : Obj, (w1.alloc o).cell? ⟨w.heap.size + 1, 0, none⟩ = some (.int .i64 0) := fun o => blk_cell (blk_alloc (blk_below C1.out B1.out) o) 0
  have f1 : ∀ o : Obj, (w1.alloc o).cell? ⟨w.heap.size + 1, 1, none⟩ = some (.int .i64 0) := fun o => blk_cell (blk_alloc (blk_below C1.out B1.out) o) 1
  have f2 : ∀ o o2 : Obj, ((w1.alloc o).alloc o2).cell? ⟨w.heap.size + 1, 0, none⟩ = some (.int .i64 0) := fun o o2 => blk_cell (blk_alloc (blk_alloc (blk_below C1.out B1.out) o) o2) 0
  have f3 : ∀ o o2 : Obj, ((w1.alloc o).alloc o2).cell? ⟨w.heap.size + 1, 1, none⟩ = some (.int .i64 0) := fun o o2 => blk_cell (blk_alloc (blk_alloc (blk_below C1.out B1.out) o) o2) 1
  have k0 : ∀ o : Obj, (w1.alloc o).frozen? ⟨w.heap.size + 1, 0, none⟩ = false := fun o => blk_frozen (blk_alloc (blk_below C1.out B1.out) o) 0
  have k1 : ∀ o : Obj, (w1.alloc o).frozen? ⟨w.heap.size + 1, 1, none⟩ = false := fun o => blk_frozen (blk_alloc (blk_below C1.out B1.out) o) 1
  have k2 : ∀ o o2 : Obj, ((w1.alloc o).alloc o2).frozen? ⟨w.heap.size + 1, 0, none⟩ = false := fun o o2 => blk_frozen (blk_alloc (blk_alloc (blk_below C1.out B1.out) o) o2) 0
  have k3 : ∀ o o2 : Obj, ((w1.alloc o).alloc o2).frozen? ⟨w.heap.size + 1, 1, none⟩ = false := fun o o2 => blk_frozen (blk_alloc (blk_alloc (blk_below C1.out B1.out) o) o2) 1
  have h1 : w1.drew.cell? ⟨w.heap.size, 0, none⟩ = some (.int .i64 2) ∧ w1.drew.cell? ⟨w.heap.size, 1, none⟩ = some (.int .i64 v) ∧ True := ⟨q0, q1, trivial⟩
  go_region_held3 (fun W => W.cell? ⟨w.heap.size, 0, none⟩ = some (.int .i64 2) ∧ W.cell? ⟨w.heap.size, 1, none⟩ = some (.int .i64 v) ∧ True) (first | exact h1 | go_keep) (fail)
  obtain ⟨r0, r1, rT, rM, rB⟩ := impl_LeastBits.fin w w1 15 1 2 v 2 (blk_below C1.out B1.out) (HB.out.trans (B1.out.mono HB.out.size)) _ rfl
  have hs := (HB.out.trans (B1.out.mono HB.out.size)).size
  have RR := Aside0.mk (And.intro rT (And.intro rM (And.intro hs rB)))
  rename_i hh
  clear f0 f1 f2 f3 k0 k1 k2 k3 h1 rT rM rB q0 q1 z0 z1 y0 y1 hs hh
  generalize World.drew _ = wx at r0 r1 RR ⊢
  go_wp2
  exact bodyPost_ret (v := .tuple #[.pointer (some ⟨w1.heap.size + 1, 0, none⟩), .agg #[.int .i64 15, .int .i64 1], .bool true]) (by simp [results, Try.results19, go_sem, r0, r1]) rfl ⟨_, _, rfl, RR.out.1, RR.out.2.1, RR.out.2.2.1, RR.out.2.2.2⟩
set_option maxHeartbeats 4000000 in
set_option maxRecDepth 100000 in
theorem impl_LeastBits.talk21 (v : Int) (hsp : impl_isSplit.f 3 v 2 = some true) (w : World) : Calls Try.prog 19 #[.agg #[.int .i64 3, .int .i64 v], .int .i64 2] w fun e w' => ∃ T M, e = .returned (.tuple #[.pointer (some ⟨T, 0, none⟩), .agg #[.int .i64 15, .int .i64 3], .bool true]) ∧ w'.heap[T]? = some (.cells #[.int .i64 3, .int .i64 v, .int .i64 2, .map (some M)] 63 (0, 0)) ∧ w'.heap[M]? = some (.map #[] 0) ∧ w.heap.size ≤ M ∧ Below w.heap.size w w' := by
  have huT := Try.underlying25
  have huA := Try.underlying63
  have huS := Try.underlying43
  have hmk : ∀ W, (Instr.makeMap 61 none).run Try.prog W = .ok (.map (some W.heap.size)) (W.alloc (.map #[] 0)) := fun W => run_makeMap 61 W
  obtain ⟨W0, hW0⟩ : ∃ W0, W0 = (w.alloc (.cells #[.int .i64 3, .int .i64 v] 25)).alloc (.cells #[.int .i64 0, .int .i64 0] 43) := ⟨_, rfl⟩
  have HB : Aside0 (Below w.heap.size w W0) := ⟨by rw [hW0]; exact ((Below.refl _ _).alloc (Nat.le_refl _) _).alloc (by simp) _⟩
  have C0 : Aside0 (W0.heap[w.heap.size]? = some (.cells #[.int .i64 3, .int .i64 v] 25 (0, 0))) := ⟨by rw [hW0]; exact blk_alloc (blk_new w _) _⟩
  have C1 : Aside0 (W0.heap[w.heap.size + 1]? = some (.cells #[.int .i64 0, .int .i64 0] 43 (0, 0))) := ⟨by
    rw [hW0]; have := blk_new (w.alloc (.cells #[.int .i64 3, .int .i64 v] 25)) (.cells #[.int .i64 0, .int .i64 0] 43)
    simpa using this⟩
  have CW := Aside0.mk hW0
  have HSP := Aside0.mk hsp
  clear hW0 hsp
  have wi0 : IntKind.i64.wrap 0 = 0 := by decide
  have wi1 : IntKind.i64.wrap 1 = 1 := by decide
  have wi2 : IntKind.i64.wrap 2 = 2 := by decide
  have wi3 : IntKind.i64.wrap 3 = 3 := by decide
  have wi4 : IntKind.i64.wrap 4 = 4 := by decide
  have wi15 : IntKind.i64.wrap 15 = 15 := by decide
  have wi16 : IntKind.i64.wrap 16 = 16 := by decide
  have wu1 : IntKind.u64.wrap 1 = 1 := by decide
  have wu2 : IntKind.u64.wrap 2 = 2 := by decide
  have wu4 : IntKind.u64.wrap 4 = 4 := by decide
  go_enter Try.func19, Try.ntmps19
  go_wp2_with (first | (go_at_call 35; rw [← CW.out]; (with_reducible refine (impl_isSplit.calls _ _ _ _ _ HSP.out).mono ?_); rintro e w1 ⟨rfl, hb⟩; have B1 := Aside0.mk hb; clear hb; have q0 := blk_cell (blk_below C0.out B1.out) 0; have q1 := blk_cell (blk_below C0.out B1.out) 1; have z0 := blk_cell (blk_below C1.out B1.out) 0; have z1 := blk_cell (blk_below C1.out B1.out) 1; have y0 := blk_frozen (blk_below C1.out B1.out) 0; have y1 := blk_frozen (blk_below C1.out B1.out) 1; have nlt := blk_lt (blk_below C1.out B1.out); have n1 : w.heap.size + 1 ≠ w1.heap.size := (by omega); have n2 : w.heap.size ≠ w1.heap.size := (by omega); have n3 : w.heap.size ≠ w1.heap.size + 1 := (by omega)))
  have f0 : ∀ o : Obj, (w1.alloc o).cell? ⟨w.heap.size + 1, 0, none⟩ = some (.int .i64 0) := fun o => blk_cell (blk_alloc (blk_below C1.out B1.out) o) 0
  have f1 : ∀ o : Obj, (w1.alloc o).cell? ⟨w.heap.size + 1, 1, none⟩ = some (.int .i64 0) := fun o => blk_cell (blk_alloc (blk_below C1.out B1.out) o) 1
  have f2 : ∀ o o2 : Obj, ((w1.alloc o).alloc o2).cell? ⟨w.heap.size + 1, 0, none⟩ = some (.int .i64 0) := fun o o2 => blk_cell (blk_alloc (blk_alloc (blk_below C1.out B1.out) o) o2) 0
  have f3 : ∀ o o2 : Obj, ((w1.alloc o).alloc o2).cell? ⟨w.heap.size + 1, 1, none⟩ = some (.int .i64 0) := fun o o2 => blk_cell (blk_alloc (blk_alloc (blk_below C1.out B1.out) o) o2) 1
  have k0 : ∀ o : Obj, (w1.alloc o).frozen? ⟨w.heap.size + 1, 0, none⟩ = false := fun o => blk_frozen (blk_alloc (blk_below C1.out B1.out) o) 0
  have k1 : ∀ o : Obj, (w1.alloc o).frozen? ⟨w.heap.size + 1, 1, none⟩ = false := fun o => blk_frozen (blk_alloc (blk_below C1.out B1.out) o) 1
  have k2 : ∀ o o2 : Obj, ((w1.alloc o).alloc o2).frozen? ⟨w.heap.size + 1, 0, none⟩ = false := fun o o2 => blk_frozen (blk_alloc (blk_alloc (blk_below C1.out B1.out) o) o2) 0
  have k3 : ∀ o o2 : Obj, ((w1.alloc o).alloc o2).frozen? ⟨w.heap.size + 1, 1, none⟩ = false := fun o o2 => blk_frozen (blk_alloc (blk_alloc (blk_below C1.out B1.out) o) o2) 1
  have h1 : w1.drew.cell? ⟨w.heap.size, 0, none⟩ = some (.int .i64 3) ∧ w1.drew.cell? ⟨w.heap.size, 1, none⟩ = some (.int .i64 v) ∧ True := ⟨q0, q1, trivial⟩
  go_region_held3 (fun W => W.cell? ⟨w.heap.size, 0, none⟩ = some (.int .i64 3) ∧ W.cell? ⟨w.heap.size, 1, none⟩ = some (.int .i64 v) ∧ True) (first | exact h1 | go_keep) (fail)
  obtain ⟨r0, r1, rT, rM, rB⟩ := impl_LeastBits.fin w w1 15 3 3 v 2 (blk_below C1.out B1.out) (HB.out.trans (B1.out.mono HB.out.size)) _ rfl
  have hs := (HB.out.trans (B1.out.mono HB.out.size)).size
  have RR := Aside0.mk (And.intro rT (And.intro rM (And.intro hs rB)))
  rename_i hh
  clear f0 f1 f2 f3 k0 k1 k2 k3 h1 rT rM rB q0 q1 z0 z1 y0 y1 hs hh
  generalize World.drew _ = wx at r0 r1 RR ⊢
  go_wp2
  exact bodyPost_ret (v := .tuple #[.pointer (some ⟨w1.heap.size + 1, 0, none⟩), .agg #[.int .i64 15, .int .i64 3], .bool true]) (by simp [results, Try.results19, go_sem, r0, r1]) rfl ⟨_, _, rfl, RR.out.1, RR.out.2.1, RR.out.2.2.1, RR.out.2.2.2⟩
set_option maxHeartbeats 4000000 in
set_option maxRecDepth 100000 in
theorem impl_LeastBits.talk22 (v : Int) (hsp : impl_isSplit.f 4 v 2 = some true) (w : World) : Calls Try.prog 19 #[.agg #[.int .i64 4, .int .i64 v], .int .i64 2] w fun e w' => ∃ T M, e = .returned (.tuple #[.pointer (some ⟨T, 0, none⟩), .agg #[.int .i64 15, .int .i64 15], .bool true]) ∧ w'.heap[T]? = some (.cells #[.int .i64 4, .int .i64 v, .int .i64 2, .map (some M)] 63 (0, 0)) ∧ w'.heap[M]? = some (.map #[] 0) ∧ w.heap.size ≤ M ∧ Below w.heap.size w w' := by
  have huT := Try.underlying25
  have huA := Try.underlying63
  have huS := Try.underlying43
  have hmk : ∀ W, (Instr.makeMap 61 none).run Try.prog W = .ok (.map (some W.heap.size)) (W.alloc (.map #[] 0)) := fun W => run_makeMap 61 W
  obtain ⟨W0, hW0⟩ : ∃ W0, W0 = (w.alloc (.cells #[.int .i64 4, .int .i64 v] 25)).alloc (.cells #[.int .i64 0, .int .i64 0] 43) := ⟨_, rfl⟩
  have HB : Aside0 (Below w.heap.size w W0) := ⟨by rw [hW0]; exact ((Below.refl _ _).alloc (Nat.le_refl _) _).alloc (by simp) _⟩
  have C0 : Aside0 (W0.heap[w.heap.size]? = some (.cells #[.int .i64 4, .int .i64 v] 25 (0, 0))) := ⟨by rw [hW0]; exact blk_alloc (blk_new w _) _⟩
  have C1 : Aside0 (W0.heap[w.heap.size + 1]? = some (.cells #[.int .i64 0, .int .i64 0] 43 (0, 0))) := ⟨by
    rw [hW0]; have := blk_new (w.alloc (.cells #[.int .i64 4, .int .i64 v] 25)) (.cells #[.int .i64 0, .int .i64 0] 43)
    simpa using this⟩
  have CW := Aside0.mk hW0
  have HSP := Aside0.mk hsp
  clear hW0 hsp
  have wi0 : IntKind.i64.wrap 0 = 0 := by decide
  have wi1 : IntKind.i64.wrap 1 = 1 := by decide
  have wi2 : IntKind.i64.wrap 2 = 2 := by decide
  have wi3 : IntKind.i64.wrap 3 = 3 := by decide
  have wi4 : IntKind.i64.wrap 4 = 4 := by decide
  have wi15 : IntKind.i64.wrap 15 = 15 := by decide
  have wi16 : IntKind.i64.wrap 16 = 16 := by decide
  have wu1 : IntKind.u64.wrap 1 = 1 := by decide
  have wu2 : IntKind.u64.wrap 2 = 2 := by decide
  have wu4 : IntKind.u64.wrap 4 = 4 := by decide
  go_enter Try.func19, Try.ntmps19
  go_wp2_with (first | (go_at_call 35; rw [← CW.out]; (with_reducible refine (impl_isSplit.calls _ _ _ _ _ HSP.out).mono ?_); rintro e w1 ⟨rfl, hb⟩; have B1 := Aside0.mk hb; clear hb; have q0 := blk_cell (blk_below C0.out B1.out) 0; have q1 := blk_cell (blk_below C0.out B1.out) 1; have z0 := blk_cell (blk_below C1.out B1.out) 0; have z1 := blk_cell (blk_below C1.out B1.out) 1; have y0 := blk_frozen (blk_below C1.out B1.out) 0; have y1 := blk_frozen (blk_below C1.out B1.out) 1; have nlt := blk_lt (blk_below C1.out B1.out); have n1 : w.heap.size + 1 ≠ w1.heap.size := (by omega); have n2 : w.heap.size ≠ w1.heap.size := (by omega); have n3 : w.heap.size ≠ w1.heap.size + 1 := (by omega)))
  have f0 : ∀ o : Obj, (w1.alloc o).cell? ⟨w.heap.size + 1, 0, none⟩ = some (.int .i64 0) := fun o => blk_cell (blk_alloc (blk_below C1.out B1.out) o) 0
  have f1 : ∀ o : Obj, (w1.alloc o).cell? ⟨w.heap.size + 1, 1, none⟩ = some (.int .i64 0) := fun o => blk_cell (blk_alloc (blk_below C1.out B1.out) o) 1
  have f2 : ∀ o o2 : Obj, ((w1.alloc o).alloc o2).cell? ⟨w.heap.size + 1, 0, none⟩ = some (.int .i64 0) := fun o o2 => blk_cell (blk_alloc (blk_alloc (blk_below C1.out B1.out) o) o2) 0
  have f3 : ∀ o o2 : Obj, ((w1.alloc o).alloc o2).cell? ⟨w.heap.size + 1, 1, none⟩ = some (.int .i64 0) := fun o o2 => blk_cell (blk_alloc (blk_alloc (blk_below C1.out B1.out) o) o2) 1
  have k0 : ∀ o : Obj, (w1.alloc o).frozen? ⟨w.heap.size + 1, 0, none⟩ = false := fun o => blk_frozen (blk_alloc (blk_below C1.out B1.out) o) 0
  have k1 : ∀ o : Obj, (w1.alloc o).frozen? ⟨w.heap.size + 1, 1, none⟩ = false := fun o => blk_frozen (blk_alloc (blk_below C1.out B1.out) o) 1
  have k2 : ∀ o o2 : Obj, ((w1.alloc o).alloc o2).frozen? ⟨w.heap.size + 1, 0, none⟩ = false := fun o o2 => blk_frozen (blk_alloc (blk_alloc (blk_below C1.out B1.out) o) o2) 0
  have k3 : ∀ o o2 : Obj, ((w1.alloc o).alloc o2).frozen? ⟨w.heap.size + 1, 1, none⟩ = false := fun o o2 => blk_frozen (blk_alloc (blk_alloc (blk_below C1.out B1.out) o) o2) 1
  have h1 : w1.drew.cell? ⟨w.heap.size, 0, none⟩ = some (.int .i64 4) ∧ w1.drew.cell? ⟨w.heap.size, 1, none⟩ = some (.int .i64 v) ∧ True := ⟨q0, q1, trivial⟩
  go_region_held3 (fun W => W.cell? ⟨w.heap.size, 0, none⟩ = some (.int .i64 4) ∧ W.cell? ⟨w.heap.size, 1, none⟩ = some (.int .i64 v) ∧ True) (first | exact h1 | go_keep) (fail)
  obtain ⟨r0, r1, rT, rM, rB⟩ := impl_LeastBits.fin w w1 15 15 4 v 2 (blk_below C1.out B1.out) (HB.out.trans (B1.out.mono HB.out.size)) _ rfl
  have hs := (HB.out.trans (B1.out.mono HB.out.size)).size
  have RR := Aside0.mk (And.intro rT (And.intro rM (And.intro hs rB)))
  rename_i hh
  clear f0 f1 f2 f3 k0 k1 k2 k3 h1 rT rM rB q0 q1 z0 z1 y0 y1 hs hh
  generalize World.drew _ = wx at r0 r1 RR ⊢
  go_wp2
  exact bodyPost_ret (v := .tuple #[.pointer (some ⟨w1.heap.size + 1, 0, none⟩), .agg #[.int .i64 15, .int .i64 15], .bool true]) (by simp [results, Try.results19, go_sem, r0, r1]) rfl ⟨_, _, rfl, RR.out.1, RR.out.2.1, RR.out.2.2.1, RR.out.2.2.2⟩
theorem impl_LeastBits.st0 {n v k T M : Nat} {W : World} (hT : W.heap[T]? = some (.cells #[.int .i64 (n : Int), .int .i64 (v : Int), .int .i64 (k : Int), .map (some M)] 63 (0, 0))) (hM : W.heap[M]? = some (.map #[] 0)) : impl_talk_need.St n v k T M W := ⟨hT, Memo.empty hM⟩
theorem impl_LeastBits.talk (n v k l : Nat) (hn : n = k + l) (hk : k ≤ 2) (hl : l ≤ 2) (hsp : impl_isSplit.f (n : Int) (v : Int) (k : Int) = some true) (w : World) : Calls Try.prog 19 #[.agg #[.int .i64 (n : Int), .int .i64 (v : Int)], .int .i64 (k : Int)] w fun e w' => ∃ T M, e = .returned (.tuple #[.pointer (some ⟨T, 0, none⟩), .agg #[.int .i64 ((2 ^ 2 ^ k - 1 : Nat) : Int), .int .i64 ((2 ^ 2 ^ l - 1 : Nat) : Int)], .bool true]) ∧ impl_talk_need.St n v k T M w' ∧ w.heap.size ≤ M ∧ Below w.heap.size w w' := by
  subst hn
  rcases (by omega : k = 0 ∨ k = 1 ∨ k = 2) with rfl | rfl | rfl <;> rcases (by omega : l = 0 ∨ l = 1 ∨ l = 2) with rfl | rfl | rfl
  · exact (impl_LeastBits.talk00 (v : Int) hsp w).mono (fun e w' ⟨T, M, h1, h2, h3, h4, h5⟩ => ⟨T, M, h1, impl_LeastBits.st0 h2 h3, h4, h5⟩)
  · exact (impl_LeastBits.talk01 (v : Int) hsp w).mono (fun e w' ⟨T, M, h1, h2, h3, h4, h5⟩ => ⟨T, M, h1, impl_LeastBits.st0 h2 h3, h4, h5⟩)
  · exact (impl_LeastBits.talk02 (v : Int) hsp w).mono (fun e w' ⟨T, M, h1, h2, h3, h4, h5⟩ => ⟨T, M, h1, impl_LeastBits.st0 h2 h3, h4, h5⟩)
  · exact (impl_LeastBits.talk10 (v : Int) hsp w).mono (fun e w' ⟨T, M, h1, h2, h3, h4, h5⟩ => ⟨T, M, h1, impl_LeastBits.st0 h2 h3, h4, h5⟩)
  · exact (impl_LeastBits.talk11 (v : Int) hsp w).mono (fun e w' ⟨T, M, h1, h2, h3, h4, h5⟩ => ⟨T, M, h1, impl_LeastBits.st0 h2 h3, h4, h5⟩)
  · exact (impl_LeastBits.talk12 (v : Int) hsp w).mono (fun e w' ⟨T, M, h1, h2, h3, h4, h5⟩ => ⟨T, M, h1, impl_LeastBits.st0 h2 h3, h4, h5⟩)
  · exact (impl_LeastBits.talk20 (v : Int) hsp w).mono (fun e w' ⟨T, M, h1, h2, h3, h4, h5⟩ => ⟨T, M, h1, impl_LeastBits.st0 h2 h3, h4, h5⟩)
  · exact (impl_LeastBits.talk21 (v : Int) hsp w).mono (fun e w' ⟨T, M, h1, h2, h3, h4, h5⟩ => ⟨T, M, h1, impl_LeastBits.st0 h2 h3, h4, h5⟩)
  · exact (impl_LeastBits.talk22 (v : Int) hsp w).mono (fun e w' ⟨T, M, h1, h2, h3, h4, h5⟩ => ⟨T, M, h1, impl_LeastBits.st0 h2 h3, h4, h5⟩)
set_option maxHeartbeats 4000000 in
set_option maxRecDepth 100000 in
theorem impl_LeastBits.talkNo (n v k : Int) (q : Bool) (hsp : impl_isSplit.f n v k = some q) (hq : q = true → 2 < k ∨ (0 ≤ k ∧ k ≤ 2 ∧ 0 ≤ n ∧ n ≤ 5 ∧ 2 < n - k)) (w : World) : Calls Try.prog 19 #[.agg #[.int .i64 n, .int .i64 v], .int .i64 k] w fun e w' => e = .returned (.tuple #[.pointer none, .agg #[.int .i64 0, .int .i64 0], .bool false]) ∧ Below w.heap.size w w' := by
  have huT := Try.underlying25
  have huS := Try.underlying43
  obtain ⟨W0, hW0⟩ : ∃ W0, W0 = (w.alloc (.cells #[.int .i64 n, .int .i64 v] 25)).alloc (.cells #[.int .i64 0, .int .i64 0] 43) := ⟨_, rfl⟩
  have HB : Aside0 (Below w.heap.size w W0) := ⟨by rw [hW0]; exact ((Below.refl _ _).alloc (Nat.le_refl _) _).alloc (by simp) _⟩
  have C0 : Aside0 (W0.heap[w.heap.size]? = some (.cells #[.int .i64 n, .int .i64 v] 25 (0, 0))) := ⟨by rw [hW0]; exact blk_alloc (blk_new w _) _⟩
  have C1 : Aside0 (W0.heap[w.heap.size + 1]? = some (.cells #[.int .i64 0, .int .i64 0] 43 (0, 0))) := ⟨by
    rw [hW0]; have := blk_new (w.alloc (.cells #[.int .i64 n, .int .i64 v] 25)) (.cells #[.int .i64 0, .int .i64 0] 43)
    simpa using this⟩
  have CW := Aside0.mk hW0
  have HSP := Aside0.mk hsp
  clear hW0 hsp
  have key : q = false ∨ (q = true ∧ 2 < k) ∨ (q = true ∧ (0 ≤ k ∧ k ≤ 2 ∧ 0 ≤ n ∧ n ≤ 5 ∧ 2 < n - k)) := by
    cases q with
    | false => exact .inl rfl
    | true =>
      rcases hq rfl with h | h
      · exact .inr (.inl ⟨rfl, h⟩)
      · exact .inr (.inr ⟨rfl, h⟩)
  clear hq
  rcases key with rfl | ⟨rfl, hk⟩ | ⟨rfl, hk0, hk, hn0, hn, hnk⟩
  · go_enter Try.func19, Try.ntmps19
    go_wp2_with (first | (go_at_call 35; rw [← CW.out]; (with_reducible refine (impl_isSplit.calls _ _ _ _ _ HSP.out).mono ?_); rintro e w1 ⟨rfl, hb⟩; have B1 := Aside0.mk hb; clear hb; have q0 := blk_cell (blk_below C0.out B1.out) 0; have q1 := blk_cell (blk_below C0.out B1.out) 1; have z0 := blk_cell (blk_below C1.out B1.out) 0; have z1 := blk_cell (blk_below C1.out B1.out) 1; have y0 := blk_frozen (blk_below C1.out B1.out) 0; have y1 := blk_frozen (blk_below C1.out B1.out) 1))
    have RB := blk_set (blk_set (blk_below C1.out B1.out) 0 (.int .i64 0)) 1 (.int .i64 0)
    have r0 := blk_cell RB 0
    have r1 := blk_cell RB 1
    have BW := ((HB.out.trans (B1.out.mono HB.out.size)).setCell (p := ⟨w.heap.size + 1, 0, none⟩) (by show w.heap.size ≤ w.heap.size + 1; omega) (.int .i64 0)).setCell (p := ⟨w.heap.size + 1, 1, none⟩) (by show w.heap.size ≤ w.heap.size + 1; omega) (.int .i64 0)
    exact bodyPost_ret (v := .tuple #[.pointer none, .agg #[.int .i64 0, .int .i64 0], .bool false]) (by simp [results, Try.results19, go_sem, r0, r1]) rfl ⟨rfl, BW⟩
  · have hd : decide (k > 2) = true := decide_eq_true hk
    go_enter Try.func19, Try.ntmps19
    go_wp2_with (first | (go_at_call 35; rw [← CW.out]; (with_reducible refine (impl_isSplit.calls _ _ _ _ _ HSP.out).mono ?_); rintro e w1 ⟨rfl, hb⟩; have B1 := Aside0.mk hb; clear hb; have q0 := blk_cell (blk_below C0.out B1.out) 0; have q1 := blk_cell (blk_below C0.out B1.out) 1; have z0 := blk_cell (blk_below C1.out B1.out) 0; have z1 := blk_cell (blk_below C1.out B1.out) 1; have y0 := blk_frozen (blk_below C1.out B1.out) 0; have y1 := blk_frozen (blk_below C1.out B1.out) 1))
    have RB := blk_set (blk_set (blk_below C1.out B1.out) 0 (.int .i64 0)) 1 (.int .i64 0)
    have r0 := blk_cell RB 0
    have r1 := blk_cell RB 1
    have BW := ((HB.out.trans (B1.out.mono HB.out.size)).setCell (p := ⟨w.heap.size + 1, 0, none⟩) (by show w.heap.size ≤ w.heap.size + 1; omega) (.int .i64 0)).setCell (p := ⟨w.heap.size + 1, 1, none⟩) (by show w.heap.size ≤ w.heap.size + 1; omega) (.int .i64 0)
    exact bodyPost_ret (v := .tuple #[.pointer none, .agg #[.int .i64 0, .int .i64 0], .bool false]) (by simp [results, Try.results19, go_sem, r0, r1]) rfl ⟨rfl, BW⟩
  · have hd : decide (k > 2) = false := decide_eq_false (by omega)
    have hd2 : decide (n - k > 2) = true := decide_eq_true hnk
    go_enter Try.func19, Try.ntmps19
    go_wp2_with (first | (go_at_call 35; rw [← CW.out]; (with_reducible refine (impl_isSplit.calls _ _ _ _ _ HSP.out).mono ?_); rintro e w1 ⟨rfl, hb⟩; have B1 := Aside0.mk hb; clear hb; have q0 := blk_cell (blk_below C0.out B1.out) 0; have q1 := blk_cell (blk_below C0.out B1.out) 1; have z0 := blk_cell (blk_below C1.out B1.out) 0; have z1 := blk_cell (blk_below C1.out B1.out) 1; have y0 := blk_frozen (blk_below C1.out B1.out) 0; have y1 := blk_frozen (blk_below C1.out B1.out) 1))
    have RB := blk_set (blk_set (blk_below C1.out B1.out) 0 (.int .i64 0)) 1 (.int .i64 0)
    have r0 := blk_cell RB 0
    have r1 := blk_cell RB 1
    have BW := ((HB.out.trans (B1.out.mono HB.out.size)).setCell (p := ⟨w.heap.size + 1, 0, none⟩) (by show w.heap.size ≤ w.heap.size + 1; omega) (.int .i64 0)).setCell (p := ⟨w.heap.size + 1, 1, none⟩) (by show w.heap.size ≤ w.heap.size + 1; omega) (.int .i64 0)
    exact bodyPost_ret (v := .tuple #[.pointer none, .agg #[.int .i64 0, .int .i64 0], .bool false]) (by simp [results, Try.results19, go_sem, r0, r1]) rfl ⟨rfl, BW⟩
set_option maxRecDepth 100000 in
theorem impl_LeastBits.good (n v k l : Nat) (hn : n = k + l) (hk : k ≤ 2) (hl : l ≤ 2) (hv : v < 2 ^ 2 ^ n) (hsp : impl_isSplit.f (n : Int) (v : Int) (k : Int) = some true) (w : World) :
    Calls Try.prog 8 #[.agg #[.int .i64 (n : Int), .int .i64 (v : Int)], .int .i64 (k : Int)] w fun e w' => e = .returned (.int .i64 ((nd (conB n k v) 40 (2 ^ 2 ^ k - 1) (2 ^ 2 ^ l - 1) : Nat) : Int)) ∧ Below w.heap.size w w' := by
  have huT := Try.underlying25
  have huS := Try.underlying43
  obtain ⟨W0, hW0⟩ : ∃ W0, W0 = w.alloc (.cells #[.int .i64 (n : Int), .int .i64 (v : Int)] 25) := ⟨_, rfl⟩
  have HB : Aside0 (Below w.heap.size w W0) := ⟨by rw [hW0]; exact (Below.refl _ _).alloc (Nat.le_refl _) _⟩
  have CW := Aside0.mk hW0
  have HT := Aside0.mk (fun W => impl_LeastBits.talk n v k l hn hk hl hsp W)
  have hpk : 4 ≤ 2 ^ 2 ^ k * 2 := by
    have := Nat.pow_le_pow_right (n := 2) (by decide) (Nat.one_le_two_pow (n := k)); omega
  have hpl : 4 ≤ 2 ^ 2 ^ l * 2 := by
    have := Nat.pow_le_pow_right (n := 2) (by decide) (Nat.one_le_two_pow (n := l)); omega
  have hqk : 2 ^ 2 ^ k ≤ 16 := Nat.pow_le_pow_right (n := 2) (by decide) (Nat.pow_le_pow_right (n := 2) (by decide) hk)
  have hql : 2 ^ 2 ^ l ≤ 16 := Nat.pow_le_pow_right (n := 2) (by decide) (Nat.pow_le_pow_right (n := 2) (by decide) hl)
  have hd : impl_talk_need.Dom n k (2 ^ 2 ^ k - 1) (2 ^ 2 ^ l - 1) := ⟨⟨by omega, by omega, by omega, by omega⟩, by omega, by rw [show n - k = l by omega]; omega⟩
  have HN := Aside0.mk (fun T M W (h : impl_talk_need.St n v k T M W) => impl_talk_need.call n v k T M ⟨by omega, hk, by omega, by omega⟩ hv 40 _ _ W hd (by omega) h)
  clear hn hk hl hv hsp hW0 hpk hpl hqk hql hd
  generalize nd (conB n k v) 40 (2 ^ 2 ^ k - 1) (2 ^ 2 ^ l - 1) = R at *
  generalize 2 ^ 2 ^ k - 1 = a at *
  generalize 2 ^ 2 ^ l - 1 = b at *
  go_enter Try.func8, Try.ntmps8
  go_wp2_with (first | (go_at_call 19; rw [← CW.out]; (with_reducible refine (HT.out _).mono ?_); rintro e w1 ⟨T, M, rfl, hst, hM, hb⟩; have B1 := Aside0.mk hb; have HST := Aside0.mk hst; have HM := Aside0.mk hM; clear hb hst hM) | (go_at_call 20; (with_reducible refine (HN.out _ _ _ (HST.out.below ((Below.refl _ _).alloc (Nat.le_refl _) _))).mono ?_); rintro e w3 ⟨rfl, hst, hb⟩; have B3 := Aside0.mk hb; clear hb hst))
  go_ret
  have hm := HM.out
  have h2 := HB.out.size
  refine ⟨rfl, ?_⟩
  have h3 := (HB.out.trans (B1.out.mono HB.out.size))
  have h4 := h3.alloc h3.size (.cells #[.int .i64 (a : Int), .int .i64 (b : Int)] 43)
  exact h4.trans (B3.out.below (by omega) h4.size)
set_option maxRecDepth 100000 in
theorem impl_LeastBits.bad (n v k : Int) (q : Bool) (hsp : impl_isSplit.f n v k = some q) (hq : q = true → 2 < k ∨ (0 ≤ k ∧ k ≤ 2 ∧ 0 ≤ n ∧ n ≤ 5 ∧ 2 < n - k)) (w : World) :
    Calls Try.prog 8 #[.agg #[.int .i64 n, .int .i64 v], .int .i64 k] w fun e w' => e = .returned (.int .i64 (-1)) ∧ Below w.heap.size w w' := by
  have huT := Try.underlying25
  have huS := Try.underlying43
  have HB : Aside0 (Below w.heap.size w (w.alloc (.cells #[.int .i64 n, .int .i64 v] 25))) := ⟨(Below.refl _ _).alloc (Nat.le_refl _) _⟩
  have HT := Aside0.mk (fun W => impl_LeastBits.talkNo n v k q hsp hq W)
  clear hsp hq
  go_enter Try.func8, Try.ntmps8
  go_wp2_with (first | (go_at_call 19; (with_reducible refine (HT.out _).mono ?_); rintro e w1 ⟨rfl, hb⟩))
  go_ret
  have h3 := (HB.out.trans (hb.mono HB.out.size))
  exact ⟨rfl, h3.alloc h3.size _⟩
theorem impl_LeastBits.calls (a0_0 : Int) (a0_1 : Int) (a1 : Int) (r : Int) (w : World) (h : impl_LeastBits.f a0_0 a0_1 a1 = some r) :
    Calls Try.prog 8 #[.agg #[.int .i64 a0_0, .int .i64 a0_1], .int .i64 a1] w fun e w' => e = .returned (.int .i64 r) ∧ Below w.heap.size w w' := by
  unfold impl_LeastBits.f at h
  obtain ⟨t, ht, h⟩ := Option.bind_eq_some_iff.mp h
  by_cases hc : t = true ∧ a1 ≤ 2 ∧ a0_0 - a1 ≤ 2
  · rw [if_pos hc] at h
    obtain ⟨rfl, h1, h2⟩ := hc
    by_cases hd : 0 ≤ a0_0 ∧ a0_0 ≤ 4 ∧ 0 ≤ a1 ∧ a1 ≤ a0_0 ∧ 0 ≤ a0_1 ∧ a0_1 < ((2 ^ 2 ^ a0_0.toNat : Nat) : Int)
    · rw [if_pos hd] at h
      obtain ⟨d1, d2, d3, d4, d5, d6⟩ := hd
      obtain ⟨n, rfl⟩ := nat_of d1
      obtain ⟨v, rfl⟩ := nat_of d5
      obtain ⟨k, rfl⟩ := nat_of d3
      simp only [Int.toNat_natCast] at h d6
      rw [← Option.some.inj h]
      exact impl_LeastBits.good n v k (n - k) (by omega) (by omega) (by omega) (by exact_mod_cast d6) ht w
    · rw [if_neg hd] at h; cases h
  · rw [if_neg hc] at h
    by_cases hd : t = true → 0 ≤ a1 ∧ 0 ≤ a0_0 ∧ a0_0 ≤ 5
    · rw [if_pos hd] at h
      rw [← Option.some.inj h]
      exact impl_LeastBits.bad a0_0 a0_1 a1 t ht (fun e => by
        obtain ⟨e1, e2, e3⟩ := hd e
        by_cases h3 : a1 ≤ 2
        · exact .inr ⟨e1, h3, e2, e3, Classical.byContradiction fun h4 => hc ⟨e, h3, by omega⟩⟩
        · exact .inl (by omega)) w
    · rw [if_neg hd] at h; cases h


end Go.Proofs.Ythkdjccjcpneiaa.Print
