/- Functions of the given program as plain Lean functions, with proofs that their calls compute them, or lemmas on these. Laid by a program of this repo for the seat Ythkdjccjcpneiaa; Lean checks it. -/
import Derived.Test.YthkdjccjcpneiaaKExactLeastBits0
import Derived.Test.YthkdjccjcpneiaaKExactLeastBits3
import Derived.Test.YthkdjccjcpneiaaKExactLeastBits4
import Derived.Test.YthkdjccjcpneiaaM20
import Derived.Test.YthkdjccjcpneiaaM19
import Derived.Shelf.GgClosure.Gives
import Derived.BigQuiet
import Derived.Deep.RegionHeld3
import Derived.DeepKeys5
import Derived.Lib.SlBytesConst
namespace Go.Proofs.Ythkdjccjcpneiaa.Print
open Go.RowKit Go.Proofs.YthkdjccjcpneiaaW.PrintWords Go.Proofs.YthkdjccjcpneiaaW.PrintLast Go.Proofs.YthkdjccjcpneiaaW.PrintMore
attribute [local go_sem] max2_int min2_int max_two min_two max_three min_three max_four min_four   -- for this text's walks alone
set_option linter.unusedVariables false
set_option linter.unusedSimpArgs false

--OWNPART
/-! ### impl_talk_need: function 20 -/
--IMPORT M20
--IMPORT M19
--IMPORT Derived.Shelf.GgClosure.Gives
--IMPORT Derived.BigQuiet
--IMPORT Derived.Deep.RegionHeld3
--IMPORT Derived.DeepKeys5
--IMPORT Derived.Lib.SlBytesConst
open Go.Proofs.Ythkdjccjcpneiaa.M
set_option maxRecDepth 100000 in
theorem impl_talk_need.laid : laidOutB Try.prog = true := by kernel_rfl
theorem impl_talk_need.wide : (match Try.prog.underlying 43 with | some (.array _ _) | some (.struct _) => true | _ => false) = true := by rw [Try.underlying43]
set_option maxRecDepth 100000 in
theorem impl_talk_need.keyed : Go.Maps.Keyed Try.prog 43 := Go.Maps.Keyed.of_law (deep_law_laid impl_talk_need.laid (m := 2) (by omega) (of_decide_eq_true (by kernel_rfl)) (by kernel_rfl) impl_talk_need.wide)
theorem impl_talk_need.hk : Try.prog.keyType 43 = true := by kernel_rfl
theorem impl_talk_need.hcells : Try.prog.cellsOf 43 = 2 := by kernel_rfl
theorem impl_talk_need.hcells1 : Try.prog.cellsOf 3 = 1 := by kernel_rfl
theorem impl_talk_need.hsz : ∃ q, Try.prog.types.size = q + 1 := ⟨Try.prog.types.size - 1, by have : 0 < Try.prog.types.size := of_decide_eq_true (by kernel_rfl); omega⟩
theorem impl_talk_need.key (a b : Nat) (ha : a < 16) (hb : b < 16) : ∃ kl, keyOf Try.prog 43 (.agg #[.int .i64 (a : Int), .int .i64 (b : Int)]) = some kl := by
  have hwa : (Lit.int .i64 (a : Int)).wf = true := wf_nat (by omega)
  have hwb : (Lit.int .i64 (b : Int)).wf = true := wf_nat (by omega)
  obtain ⟨q, hq⟩ := impl_talk_need.hsz
  unfold keyOf
  rw [Try.underlying43]
  simp only [impl_talk_need.hk, hq]
  simp [Value.formed, Try.underlying43, Try.underlying3, impl_talk_need.hcells, impl_talk_need.hcells1, Program.keyLits, Value.cells, hwa, hwb]
/-- two sides of a table of n variables, k of them rows -/
def impl_talk_need.Dom (n k a b : Nat) : Prop := Sd a b ∧ a < 2 ^ 2 ^ k ∧ b < 2 ^ 2 ^ (n - k)
/-- what the map holds of two sides: the least number of bits -/
def impl_talk_need.Good (n v k : Nat) (x y : Value) : Prop := ∃ a b : Nat, impl_talk_need.Dom n k a b ∧ x = .agg #[.int .i64 (a : Int), .int .i64 (b : Int)] ∧ y = .int .i64 ((nd (conB n k v) 40 a b : Nat) : Int)
def impl_talk_need.keys : List Value := (List.range 16).flatMap fun (m : Nat) => (List.range 16).map fun (u : Nat) => .agg #[.int .i64 (m : Int), .int .i64 (u : Int)]
theorem impl_talk_need.keys_all (n v k : Nat) (x y : Value) (h : impl_talk_need.Good n v k x y) : x ∈ impl_talk_need.keys := by
  obtain ⟨m, u, hd, rfl, _⟩ := h
  exact List.mem_flatMap.mpr ⟨m, List.mem_range.mpr hd.1.ha2, List.mem_map.mpr ⟨u, List.mem_range.mpr hd.1.hb2, rfl⟩⟩
theorem impl_talk_need.keys_len : impl_talk_need.keys.length < maxLen := by
  have : impl_talk_need.keys.length = 256 := by
    unfold impl_talk_need.keys
    simp [List.length_flatMap]
    decide
  rw [this]; decide
theorem impl_talk_need.Good.at {n v k m u : Nat} {y : Value} (h : impl_talk_need.Good n v k (.agg #[.int .i64 (m : Int), .int .i64 (u : Int)]) y) : y = .int .i64 ((nd (conB n k v) 40 m u : Nat) : Int) := by
  obtain ⟨m', u', _, e, rfl⟩ := h
  injection e with e
  have e1 := congrArg (fun a => a[0]?) e
  have e2 := congrArg (fun a => a[1]?) e
  simp at e1 e2
  obtain rfl : m = m' := by omega
  obtain rfl : u = u' := by omega
  rfl
/-- the talk lies in block T, what it remembers in block M -/
def impl_talk_need.St (n v k T M : Nat) (W : World) : Prop := W.heap[T]? = some (.cells #[.int .i64 (n : Int), .int .i64 (v : Int), .int .i64 (k : Int), .map (some M)] 63 (0, 0)) ∧ Memo Try.prog 43 3 (impl_talk_need.Good n v k) W M
theorem impl_talk_need.St.below {n v k T M : Nat} {W W' : World} (h : impl_talk_need.St n v k T M W) (hb : Below W.heap.size W W') : impl_talk_need.St n v k T M W' := ⟨blk_below h.1 hb, h.2.below hb⟩
theorem impl_talk_need.St.ne {n v k T M : Nat} {W : World} (h : impl_talk_need.St n v k T M W) : T ≠ M := by
  rintro rfl
  obtain ⟨h1, es, clock, h2, _⟩ := h
  rw [h1] at h2; injection h2 with h2; cases h2
/-- a block of cells is not the map -/
theorem impl_talk_need.St.far {n v k T M g : Nat} {W : World} {o : Array Value} {t : TypeId} {q : Nat × Nat} (h : impl_talk_need.St n v k T M W) (hg : W.heap[g]? = some (.cells o t q)) : g ≠ M := by
  rintro rfl
  obtain ⟨_, es, clock, h2, _⟩ := h
  rw [hg] at h2; injection h2 with h2; cases h2
/-- within a call: the talk, what it remembers, and blocks of its own -/
def impl_talk_need.rS (w : World) (n v k T M : Nat) (l : List (Nat × Obj)) (W : World) : Prop := (∀ p ∈ l, W.heap[p.1]? = some p.2 ∧ p.1 ≠ M) ∧ impl_talk_need.St n v k T M W ∧ But M w W
theorem impl_talk_need.rS.below {w : World} {n v k T M : Nat} {l : List (Nat × Obj)} {W W' : World} (h : impl_talk_need.rS w n v k T M l W) (hb : Below W.heap.size W W') : impl_talk_need.rS w n v k T M l W' :=
  ⟨fun p hp => ⟨blk_below (h.1 p hp).1 hb, (h.1 p hp).2⟩, h.2.1.below hb, h.2.2.trans (.of_below hb)⟩
theorem impl_talk_need.rS.but {w : World} {n v k T M : Nat} {l : List (Nat × Obj)} {W W' : World} (h : impl_talk_need.rS w n v k T M l W) (hs : impl_talk_need.St n v k T M W') (hb : But M W W') : impl_talk_need.rS w n v k T M l W' :=
  ⟨fun p hp => ⟨hb.blk (h.1 p hp).2 (h.1 p hp).1, (h.1 p hp).2⟩, hs, h.2.2.trans hb⟩
theorem impl_talk_need.rS.sub {w : World} {n v k T M : Nat} {l l' : List (Nat × Obj)} {W : World} (h : impl_talk_need.rS w n v k T M l W) (hl : ∀ p ∈ l', p ∈ l) : impl_talk_need.rS w n v k T M l' W := ⟨fun p hp => h.1 p (hl p hp), h.2⟩
/-- one block more -/
theorem impl_talk_need.rS.more {w : World} {n v k T M g : Nat} {l : List (Nat × Obj)} {W : World} {o : Array Value} {t : TypeId} {q : Nat × Nat} (h : impl_talk_need.rS w n v k T M l W) (hg : W.heap[g]? = some (.cells o t q)) : impl_talk_need.rS w n v k T M ((g, .cells o t q) :: l) W :=
  ⟨fun p hp => by
    rcases List.mem_cons.mp hp with rfl | hp
    · exact ⟨hg, h.2.1.far hg⟩
    · exact h.1 p hp, h.2⟩
theorem impl_talk_need.rS.toSt {w : World} {n v k T M : Nat} {l : List (Nat × Obj)} {W : World} (h : impl_talk_need.rS w n v k T M l W) : impl_talk_need.St n v k T M W := h.2.1
theorem impl_talk_need.zero (w : World) : (zeroValue 3).run Try.prog w = .ok (.int .i64 0) w := by kernel_rfl
theorem impl_talk_need.start {n v k T M a b : Nat} {w : World} (h : impl_talk_need.St n v k T M w) : impl_talk_need.rS w n v k T M [(w.heap.size, .cells #[.int .i64 (a : Int), .int .i64 (b : Int)] 43 (0, 0))] (w.alloc (.cells #[.int .i64 (a : Int), .int .i64 (b : Int)] 43)) := by
  have hb0 : Below w.heap.size w (w.alloc (.cells #[.int .i64 (a : Int), .int .i64 (b : Int)] 43)) := (Below.refl _ _).alloc (Nat.le_refl _) _
  have h1 : (w.alloc (.cells #[.int .i64 (a : Int), .int .i64 (b : Int)] 43)).heap[w.heap.size]? = some (.cells #[.int .i64 (a : Int), .int .i64 (b : Int)] 43 (0, 0)) := blk_new w _
  exact impl_talk_need.rS.more ⟨fun p hp => absurd hp (List.not_mem_nil), h.below hb0, .of_below hb0⟩ h1
set_option maxHeartbeats 4000000 in
set_option maxRecDepth 100000 in
theorem impl_talk_need.hit (n v k T M a b R : Nat) (w : World) (hst : impl_talk_need.St n v k T M w)
    (hl : ∀ W, W.heap[M]? = (w.alloc (.cells #[.int .i64 (a : Int), .int .i64 (b : Int)] 43)).heap[M]? → (Instr.lookup 61 (.map (some M)) (.agg #[.int .i64 (a : Int), .int .i64 (b : Int)]) true).run Try.prog W = .ok (.tuple #[.int .i64 (R : Int), .bool true]) W) :
    Calls Try.prog 20 #[.pointer (some ⟨T, 0, none⟩), .agg #[.int .i64 (a : Int), .int .i64 (b : Int)]] w fun e w' => e = .returned (.int .i64 (R : Int)) ∧ impl_talk_need.St n v k T M w' ∧ But M w w' := by
  have huA := Try.underlying63
  have huK := Try.underlying43
  have HS := Aside0.mk (impl_talk_need.start (a := a) (b := b) hst)
  have a3 := blk_cell HS.out.2.1.1 3
  have c0 := blk_cell (HS.out.1 _ (List.mem_cons_self ..)).1 0
  have c1 := blk_cell (HS.out.1 _ (List.mem_cons_self ..)).1 1
  have HL : ∀ nd, (Instr.lookup 61 (.map (some M)) (.agg #[.int .i64 (a : Int), .int .i64 (b : Int)]) true).run Try.prog ((w.alloc (.cells #[.int .i64 (a : Int), .int .i64 (b : Int)] 43)).drewN nd) = .ok (.tuple #[.int .i64 (R : Int), .bool true]) ((w.alloc (.cells #[.int .i64 (a : Int), .int .i64 (b : Int)] 43)).drewN nd) := fun nd => hl _ (by simp)
  clear hl hst
  go_enter Try.func20, Try.ntmps20
  go_wp2_with (fail)
  go_quiet (fail)
  go_wp2
  go_ret
  exact ⟨rfl, (HS.out.below (pw_below_drewN (Below.refl _ _) _)).2⟩
set_option maxHeartbeats 4000000 in
set_option maxRecDepth 100000 in
theorem impl_talk_need.same (n v k T M a b : Nat) (w : World) (hsp : Sp n k) (hv : v < 2 ^ 2 ^ n) (hd : impl_talk_need.Dom n k a b) (hst : impl_talk_need.St n v k T M w) (hcon : conB n k v a b = true)
    (hl : ∀ W, W.heap[M]? = (w.alloc (.cells #[.int .i64 (a : Int), .int .i64 (b : Int)] 43)).heap[M]? → (Instr.lookup 61 (.map (some M)) (.agg #[.int .i64 (a : Int), .int .i64 (b : Int)]) true).run Try.prog W = .ok (.tuple #[.int .i64 0, .bool false]) W) :
    Calls Try.prog 20 #[.pointer (some ⟨T, 0, none⟩), .agg #[.int .i64 (a : Int), .int .i64 (b : Int)]] w fun e w' => e = .returned (.int .i64 0) ∧ impl_talk_need.St n v k T M w' ∧ But M w w' := by
  have huA := Try.underlying63
  have huK := Try.underlying43
  have HS := Aside0.mk (impl_talk_need.start (a := a) (b := b) hst)
  have a3 := blk_cell HS.out.2.1.1 3
  have c0 := blk_cell (HS.out.1 _ (List.mem_cons_self ..)).1 0
  have c1 := blk_cell (HS.out.1 _ (List.mem_cons_self ..)).1 1
  have HL : ∀ nd, (Instr.lookup 61 (.map (some M)) (.agg #[.int .i64 (a : Int), .int .i64 (b : Int)]) true).run Try.prog ((w.alloc (.cells #[.int .i64 (a : Int), .int .i64 (b : Int)] 43)).drewN nd) = .ok (.tuple #[.int .i64 0, .bool false]) ((w.alloc (.cells #[.int .i64 (a : Int), .int .i64 (b : Int)] 43)).drewN nd) := fun nd => hl _ (by simp)
  have HC : Aside0 (∀ W, impl_talk_need.St n v k T M W → Calls Try.prog 36 #[.pointer (some ⟨T, 0, none⟩), .agg #[.int .i64 (a : Int), .int .i64 (b : Int)]] W fun e w' => ∃ r : Int, e = .returned (.int .i64 r) ∧ decide (r < 0) = !conB n k v a b ∧ Below W.heap.size W w') := ⟨fun W h => impl_talk_value.call n v k a b T (2 ^ n) _ hsp rfl hv hd.1.ha2 hd.1.hb2 W h.1 ((hsp.at hd.1.ha2 hd.1.hb2).2.2 hd.2.1 hd.2.2 (by have := hd.1.ha; omega) (by have := hd.1.hb; omega))⟩
  have HK := Aside0.mk (impl_talk_need.key a b hd.1.ha2 hd.1.hb2)
  rw [hcon] at HC
  have h0 : nd (conB n k v) 40 a b = 0 := by rw [nd, if_pos hcon]
  have HG : Aside0 (impl_talk_need.Good n v k (.agg #[.int .i64 (a : Int), .int .i64 (b : Int)]) (.int .i64 0)) := ⟨⟨a, b, hd, rfl, by rw [h0]; rfl⟩⟩
  clear hl hst h0 hcon hd hv hsp
  go_enter Try.func20, Try.ntmps20
  go_wp2_with (fail)
  go_quiet (fail)
  generalize hwr : World.drewN _ _ = wr
  have hS : Aside0 (impl_talk_need.rS w n v k T M [(w.heap.size, .cells #[.int .i64 (a : Int), .int .i64 (b : Int)] 43 (0, 0))] wr) := ⟨by rw [← hwr]; exact HS.out.below (pw_below_drewN (Below.refl _ _) _)⟩
  clear hwr c0 c1 a3 HL
  have c0 := blk_cell (hS.out.1 _ (List.mem_cons_self ..)).1 0
  have c1 := blk_cell (hS.out.1 _ (List.mem_cons_self ..)).1 1
  go_wp2_with (first | (go_at_call 36; (with_reducible refine (HC.out _ hS.out.toSt).mono ?_); rintro e w1 ⟨r, rfl, hr, hb⟩; have h9 := Aside0.mk (hS.out.below hb); clear hb; have a3 := blk_cell h9.out.2.1.1 3; have c2 := blk_cell (h9.out.1 _ (List.mem_cons_self ..)).1 0; have c3 := blk_cell (h9.out.1 _ (List.mem_cons_self ..)).1 1))
  obtain ⟨kl, hkl⟩ := HK.out
  obtain ⟨w2, hrun, hM2, ht2⟩ := h9.out.2.1.2.drew.store (t := 61) (q := .i64) (a := 0) impl_talk_need.keyed Try.underlying61 (impl_talk_need.keys_all n v k) impl_talk_need.keys_len Try.underlying3 (wf_nat (a := 0) (by decide)) hkl HG.out
  have H2 : Aside0 (impl_talk_need.St n v k T M w2 ∧ But M w w2) := ⟨⟨(But.of_turned ht2).blk h9.out.2.1.ne h9.out.2.1.1, hM2⟩, h9.out.2.2.trans ((But.of_below (Below.refl _ _).drew).trans (.of_turned ht2))⟩
  clear hkl hM2 ht2 c0 c1
  go_wp2
  go_region
  go_wp2
  go_ret
  exact ⟨rfl, H2.out⟩
theorem impl_talk_need.Dom.cand {n k a b e : Nat} (h : impl_talk_need.Dom n k a b) (he : e ∈ cands a b 32) : impl_talk_need.Dom n k (ca0 a e) (cb0 b e) ∧ impl_talk_need.Dom n k (ca1 a e) (cb1 b e) ∧ ca0 a e + cb0 b e < a + b ∧ ca1 a e + cb1 b e < a + b := by
  obtain ⟨p, q, r, s⟩ := h.1.cand he
  have hck : cok a b e = true := by unfold cands at he; exact (List.mem_filter.mp he).2
  have h1 := h.1.ha2
  have h2 := h.1.hb2
  have hm : e % 16 < 16 := Nat.mod_lt _ (by omega)
  have l0 : ca0 a e ≤ a := by unfold ca0; split; exact Nat.and_le_left; exact Nat.le_refl _
  have l1 : cb0 b e ≤ b := by unfold cb0; split; exact Nat.le_refl _; exact Nat.and_le_left
  unfold cok at hck
  simp only [Bool.and_eq_true, beq_iff_eq] at hck
  have l2 : ca1 a e ≤ a := by
    unfold ca1; split
    · rename_i hw; rw [if_pos hw] at hck; exact le_of_andn h1 hm hck.2
    · exact Nat.le_refl _
  have l3 : cb1 b e ≤ b := by
    unfold cb1; split
    · exact Nat.le_refl _
    · rename_i hw; rw [if_neg hw] at hck; exact le_of_andn h2 hm hck.2
  exact ⟨⟨p, Nat.lt_of_le_of_lt l0 h.2.1, Nat.lt_of_le_of_lt l1 h.2.2⟩, ⟨q, Nat.lt_of_le_of_lt l2 h.2.1, Nat.lt_of_le_of_lt l3 h.2.2⟩, r, s⟩
theorem impl_talk_need.rS.all {w : World} {n v k T M G : Nat} {a0 b0 a1 b1 : Nat} {l : List (Nat × Obj)} {W : World} (h : impl_talk_need.rS w n v k T M ((G + 1, .cells #[.int .i64 (a1 : Int), .int .i64 (b1 : Int)] 43 (0, 0)) :: (G, .cells #[.int .i64 (a0 : Int), .int .i64 (b0 : Int)] 43 (0, 0)) :: l) W) : W.cell? ⟨G, 0, none⟩ = some (.int .i64 (a0 : Int)) ∧ W.cell? ⟨G, 1, none⟩ = some (.int .i64 (b0 : Int)) ∧ W.cell? ⟨G + 1, 0, none⟩ = some (.int .i64 (a1 : Int)) ∧ W.cell? ⟨G + 1, 1, none⟩ = some (.int .i64 (b1 : Int)) ∧ impl_talk_need.rS w n v k T M ((G + 1, .cells #[.int .i64 (a1 : Int), .int .i64 (b1 : Int)] 43 (0, 0)) :: (G, .cells #[.int .i64 (a0 : Int), .int .i64 (b0 : Int)] 43 (0, 0)) :: l) W :=
  ⟨blk_cell (h.1 _ (List.mem_cons_of_mem _ (List.mem_cons_self ..))).1 0, blk_cell (h.1 _ (List.mem_cons_of_mem _ (List.mem_cons_self ..))).1 1, blk_cell (h.1 _ (List.mem_cons_self ..)).1 0, blk_cell (h.1 _ (List.mem_cons_self ..)).1 1, h⟩
theorem impl_talk_need.rS.sb {w : World} {n v k T M G : Nat} {a0 b0 a1 b1 : Nat} {l : List (Nat × Obj)} {W W' : World} (h : W.cell? ⟨G, 0, none⟩ = some (.int .i64 (a0 : Int)) ∧ W.cell? ⟨G, 1, none⟩ = some (.int .i64 (b0 : Int)) ∧ W.cell? ⟨G + 1, 0, none⟩ = some (.int .i64 (a1 : Int)) ∧ W.cell? ⟨G + 1, 1, none⟩ = some (.int .i64 (b1 : Int)) ∧ impl_talk_need.rS w n v k T M ((G + 1, .cells #[.int .i64 (a1 : Int), .int .i64 (b1 : Int)] 43 (0, 0)) :: (G, .cells #[.int .i64 (a0 : Int), .int .i64 (b0 : Int)] 43 (0, 0)) :: l) W) (hb : impl_talk_need.St n v k T M W' ∧ But M W W') : W'.cell? ⟨G, 0, none⟩ = some (.int .i64 (a0 : Int)) ∧ W'.cell? ⟨G, 1, none⟩ = some (.int .i64 (b0 : Int)) ∧ W'.cell? ⟨G + 1, 0, none⟩ = some (.int .i64 (a1 : Int)) ∧ W'.cell? ⟨G + 1, 1, none⟩ = some (.int .i64 (b1 : Int)) ∧ impl_talk_need.rS w n v k T M ((G + 1, .cells #[.int .i64 (a1 : Int), .int .i64 (b1 : Int)] 43 (0, 0)) :: (G, .cells #[.int .i64 (a0 : Int), .int .i64 (b0 : Int)] 43 (0, 0)) :: l) W' := (h.2.2.2.2.but hb.1 hb.2).all
theorem impl_talk_need.rS.toS4 {w : World} {n v k T M G : Nat} {a0 b0 a1 b1 : Nat} {l : List (Nat × Obj)} {W : World} (h : W.cell? ⟨G, 0, none⟩ = some (.int .i64 (a0 : Int)) ∧ W.cell? ⟨G, 1, none⟩ = some (.int .i64 (b0 : Int)) ∧ W.cell? ⟨G + 1, 0, none⟩ = some (.int .i64 (a1 : Int)) ∧ W.cell? ⟨G + 1, 1, none⟩ = some (.int .i64 (b1 : Int)) ∧ impl_talk_need.rS w n v k T M ((G + 1, .cells #[.int .i64 (a1 : Int), .int .i64 (b1 : Int)] 43 (0, 0)) :: (G, .cells #[.int .i64 (a0 : Int), .int .i64 (b0 : Int)] 43 (0, 0)) :: l) W) : impl_talk_need.St n v k T M W := h.2.2.2.2.2.1
theorem impl_talk_need.part0 {a b j : Nat} (ha : a < 16) (hb : b < 16) (hj : j < 16) : impl_sides_parted.f 3 (a : Int) (b : Int) 65 (j : Int) = if cok a b (16 * 0 + j) = true then some (((ca0 a (16 * 0 + j) : Nat) : Int), ((cb0 b (16 * 0 + j) : Nat) : Int), ((ca1 a (16 * 0 + j) : Nat) : Int), ((cb1 b (16 * 0 + j) : Nat) : Int), true) else some ((a : Int), (b : Int), (a : Int), (b : Int), false) := by
  have e1 : (16 * 0 + j) % 16 = j := by omega
  have e2 : (16 * 0 + j) / 16 = 0 := by omega
  unfold cok ca0 cb0 ca1 cb1
  rw [e1, e2]
  simp only [impl_sides_parted.f, impl_sides_parted.j0, impl_sides_parted.j1, andNot_nat (a := j) (b := a) (by omega) (by omega), andNot_nat (a := a) (b := j) (by omega) (by omega)]
  by_cases h0 : j = 0
  · subst h0; simp
  · by_cases h1 : j = a
    · subst h1; simp
    · by_cases h2 : andn j a = 0
      · have h4 : ¬ ((j : Int) = (a : Int)) := by omega
        simp [h0, h1, h2, h4]
      · have h3 : ((andn j a : Nat) : Int) ≠ 0 := by omega
        simp [h0, h1, h2]
theorem impl_talk_need.part1 {a b j : Nat} (ha : a < 16) (hb : b < 16) (hj : j < 16) : impl_sides_parted.f 3 (a : Int) (b : Int) 66 (j : Int) = if cok a b (16 * 1 + j) = true then some (((ca0 a (16 * 1 + j) : Nat) : Int), ((cb0 b (16 * 1 + j) : Nat) : Int), ((ca1 a (16 * 1 + j) : Nat) : Int), ((cb1 b (16 * 1 + j) : Nat) : Int), true) else some ((a : Int), (b : Int), (a : Int), (b : Int), false) := by
  have e1 : (16 * 1 + j) % 16 = j := by omega
  have e2 : (16 * 1 + j) / 16 = 1 := by omega
  unfold cok ca0 cb0 ca1 cb1
  rw [e1, e2]
  simp only [impl_sides_parted.f, impl_sides_parted.j0, impl_sides_parted.j1, andNot_nat (a := j) (b := b) (by omega) (by omega), andNot_nat (a := b) (b := j) (by omega) (by omega)]
  by_cases h0 : j = 0
  · subst h0; simp
  · by_cases h1 : j = b
    · subst h1; simp
    · by_cases h2 : andn j b = 0
      · have h4 : ¬ ((j : Int) = (b : Int)) := by omega
        simp [h0, h1, h2, h4]
      · have h3 : ((andn j b : Nat) : Int) ≠ 0 := by omega
        simp [h0, h1, h2]
/-- what a split leads to -/
abbrev impl_talk_need.g (n k v a b e : Nat) : Nat := max (nd (conB n k v) 40 (ca0 a e) (cb0 b e)) (nd (conB n k v) 40 (ca1 a e) (cb1 b e))
theorem impl_talk_need.nd40 {n k v a b : Nat} (hd : Sd a b) (hcon : ¬ conB n k v a b = true) : nd (conB n k v) 40 a b = bestOf (impl_talk_need.g n k v a b) 4 (cands a b 32) := by
  rw [nd, if_neg hcon]
  apply bestOf_congr
  intro e he
  obtain ⟨p, q, r, s⟩ := hd.cand he
  have h1 := hd.ha2
  have h2 := hd.hb2
  rw [nd_fuel _ 39 40 _ _ p (by omega) (by omega), nd_fuel _ 39 40 _ _ q (by omega) (by omega)]
set_option maxHeartbeats 8000000 in
set_option maxRecDepth 100000 in
theorem impl_talk_need.step (n v k T M a b : Nat) (w : World) (hsp : Sp n k) (hv : v < 2 ^ 2 ^ n) (hd : impl_talk_need.Dom n k a b) (hst : impl_talk_need.St n v k T M w) (hcon : ¬ conB n k v a b = true)
    (ih : ∀ a' b' W, impl_talk_need.Dom n k a' b' → a' + b' < a + b → impl_talk_need.St n v k T M W → Calls Try.prog 20 #[.pointer (some ⟨T, 0, none⟩), .agg #[.int .i64 (a' : Int), .int .i64 (b' : Int)]] W fun e w' => e = .returned (.int .i64 ((nd (conB n k v) 40 a' b' : Nat) : Int)) ∧ impl_talk_need.St n v k T M w' ∧ But M W w')
    (hl : ∀ W, W.heap[M]? = (w.alloc (.cells #[.int .i64 (a : Int), .int .i64 (b : Int)] 43)).heap[M]? → (Instr.lookup 61 (.map (some M)) (.agg #[.int .i64 (a : Int), .int .i64 (b : Int)]) true).run Try.prog W = .ok (.tuple #[.int .i64 0, .bool false]) W) :
    Calls Try.prog 20 #[.pointer (some ⟨T, 0, none⟩), .agg #[.int .i64 (a : Int), .int .i64 (b : Int)]] w fun e w' => e = .returned (.int .i64 ((nd (conB n k v) 40 a b : Nat) : Int)) ∧ impl_talk_need.St n v k T M w' ∧ But M w w' := by
  have huA := Try.underlying63
  have huK := Try.underlying43
  have HS := Aside0.mk (impl_talk_need.start (a := a) (b := b) hst)
  have a3 := blk_cell HS.out.2.1.1 3
  have c0 := blk_cell (HS.out.1 _ (List.mem_cons_self ..)).1 0
  have c1 := blk_cell (HS.out.1 _ (List.mem_cons_self ..)).1 1
  have HL : ∀ nd, (Instr.lookup 61 (.map (some M)) (.agg #[.int .i64 (a : Int), .int .i64 (b : Int)]) true).run Try.prog ((w.alloc (.cells #[.int .i64 (a : Int), .int .i64 (b : Int)] 43)).drewN nd) = .ok (.tuple #[.int .i64 0, .bool false]) ((w.alloc (.cells #[.int .i64 (a : Int), .int .i64 (b : Int)] 43)).drewN nd) := fun nd => hl _ (by simp)
  have HC : Aside0 (∀ W, impl_talk_need.St n v k T M W → Calls Try.prog 36 #[.pointer (some ⟨T, 0, none⟩), .agg #[.int .i64 (a : Int), .int .i64 (b : Int)]] W fun e w' => ∃ r : Int, e = .returned (.int .i64 r) ∧ decide (r < 0) = !conB n k v a b ∧ Below W.heap.size W w') := ⟨fun W h => impl_talk_value.call n v k a b T (2 ^ n) _ hsp rfl hv hd.1.ha2 hd.1.hb2 W h.1 ((hsp.at hd.1.ha2 hd.1.hb2).2.2 hd.2.1 hd.2.2 (by have := hd.1.ha; omega) (by have := hd.1.hb; omega))⟩
  have HK := Aside0.mk (impl_talk_need.key a b hd.1.ha2 hd.1.hb2)
  have hcf : conB n k v a b = false := by simpa using hcon
  rw [hcf] at HC
  have HG : Aside0 (impl_talk_need.Good n v k (.agg #[.int .i64 (a : Int), .int .i64 (b : Int)]) (.int .i64 ((nd (conB n k v) 40 a b : Nat) : Int))) := ⟨⟨a, b, hd, rfl, rfl⟩⟩
  rw [impl_talk_need.nd40 hd.1 hcon] at HG ⊢
  have HD := Aside0.mk hd
  have IH := Aside0.mk ih
  have HBN : Aside0 (∀ i, bestOf (impl_talk_need.g n k v a b) 4 (cands a b i) ≤ 4) := ⟨fun i => (bestOf_le _ _ _).1⟩
  have ha16 := hd.1.ha2
  have hb16 := hd.1.hb2
  clear hl hst hcon hcf hd hv hsp ih
  go_enter Try.func20, Try.ntmps20
  go_wp2_with (fail)
  go_quiet (fail)
  generalize hwr : World.drewN _ _ = wr
  have hS : Aside0 (impl_talk_need.rS w n v k T M [(w.heap.size, .cells #[.int .i64 (a : Int), .int .i64 (b : Int)] 43 (0, 0))] wr) := ⟨by rw [← hwr]; exact HS.out.below (pw_below_drewN (Below.refl _ _) _)⟩
  clear hwr c0 c1 a3 HL
  have c0 := blk_cell (hS.out.1 _ (List.mem_cons_self ..)).1 0
  have c1 := blk_cell (hS.out.1 _ (List.mem_cons_self ..)).1 1
  go_wp2_with (first | (go_at_call 36; (with_reducible refine (HC.out _ hS.out.toSt).mono ?_); rintro e w1 ⟨r, rfl, hr, hb⟩; have h9 := Aside0.mk (hS.out.below hb); clear hb; have kc := Go.Lib.run_convert_bytes_const (P := Try.prog) w1 65 5 #[.int .u8 65, .int .u8 66] 2 2 Try.underlying65 Try.underlying5))
  obtain ⟨A, hA⟩ : ∃ A, A = w1.heap.size := ⟨_, rfl⟩
  have hR0 : Aside0 (impl_talk_need.rS w n v k T M [(A, .cells #[.int .u8 65, .int .u8 66] 5 (2, 3)), (w.heap.size, .cells #[.int .i64 (a : Int), .int .i64 (b : Int)] 43 (0, 0))] (w1.alloc (.cells #[.int .u8 65, .int .u8 66] 5 (2, 3)))) := ⟨by rw [hA]; exact (h9.out.below ((Below.refl _ _).alloc (Nat.le_refl _) _)).more (blk_new _ _)⟩
  rw [← hA]
  clear hA kc hr h9 hS c0 c1
  go_loopg [32, 7] 2 (fun gg v32 v7 wr => ∃ i : Nat, i ≤ 2 ∧ 2 - i ≤ gg ∧ v32 = .int .i64 (i : Int) ∧ v7 = .int .i64 ((bestOf (impl_talk_need.g n k v a b) 4 (cands a b (16 * i)) : Nat) : Int) ∧ Aside0 (impl_talk_need.rS w n v k T M [(A, .cells #[.int .u8 65, .int .u8 66] 5 (2, 3)), (w.heap.size, .cells #[.int .i64 (a : Int), .int .i64 (b : Int)] 43 (0, 0))] wr))
  case atStart => exact ⟨0, Nat.zero_le _, by omega, rfl, rfl, hR0⟩
  case round =>
    clear hR0
    obtain ⟨i, hi, hg, rfl, rfl, hS⟩ := hrel
    by_cases hlt : i < 2
    · have e0 := cell_of_row wr A 0 _ _ _ (hS.out.1 _ (List.mem_cons_self ..)).1
      have e1 := cell_of_row wr A 1 _ _ _ (hS.out.1 _ (List.mem_cons_self ..)).1
      rcases (by omega : i = 0 ∨ i = 1) with rfl | rfl
      · go_wp2
        go_loopg [36, 7] 16 (fun gg v36 v7 wr => ∃ j : Nat, j ≤ 16 ∧ 16 - j ≤ gg ∧ v36 = .int .i64 (j : Int) ∧ v7 = .int .i64 ((bestOf (impl_talk_need.g n k v a b) 4 (cands a b (16 * 0 + j)) : Nat) : Int) ∧ Aside0 (impl_talk_need.rS w n v k T M [(A, .cells #[.int .u8 65, .int .u8 66] 5 (2, 3)), (w.heap.size, .cells #[.int .i64 (a : Int), .int .i64 (b : Int)] 43 (0, 0))] wr))
        case atStart => exact ⟨0, Nat.zero_le _, by omega, rfl, rfl, hS⟩
        case round =>
          clear e0 e1 hS
          obtain ⟨j, hj, hg2, rfl, rfl, hS⟩ := hrel
          by_cases hlt2 : j < 16
          · have hltz2 : (j : Int) < 16 := by omega
            have c0 := blk_cell (hS.out.1 _ (List.mem_cons_of_mem _ (List.mem_cons_self ..))).1 0
            have c1 := blk_cell (hS.out.1 _ (List.mem_cons_of_mem _ (List.mem_cons_self ..))).1 1
            have hpt := impl_talk_need.part0 (a := a) (b := b) (j := j) ha16 hb16 hlt2
            cases hck : cok a b (16 * 0 + j) with
            | false =>
              rw [hck, if_neg (by decide)] at hpt
              have HPT := Aside0.mk hpt
              have HBB := Aside0.mk (cands_miss hck)
              clear hpt hck
              go_wp2_with (first | (go_at_call 37; (with_reducible refine (impl_sides_parted.calls _ _ _ _ _ _ _ _ _ _ _ HPT.out).mono ?_); rintro e w3 ⟨rfl, hb⟩; have hS3 := Aside0.mk (hS.out.below hb); clear hb))
              go_roundg (16 - (j + 1))
              case measure => omega
              case rel => exact ⟨j + 1, by omega, by omega, by go_num, (by rw [show 16 * 0 + (j + 1) = 16 * 0 + j + 1 from rfl, HBB.out]; first | rfl | simp only [Nat.mul_zero, Nat.zero_add]), ⟨hS3.out.below (((Below.refl _ _).alloc (Nat.le_refl _) _).alloc (by simp) _)⟩⟩
            | true =>
              rw [hck, if_pos rfl] at hpt
              have HPT := Aside0.mk hpt
              have hmem : 16 * 0 + j ∈ cands a b 32 := List.mem_filter.mpr ⟨List.mem_range.mpr (by omega), hck⟩
              obtain ⟨d0, d1, s0, s1⟩ := HD.out.cand hmem
              have IH0 := Aside0.mk (fun W => IH.out _ _ W d0 s0)
              have IH1 := Aside0.mk (fun W => IH.out _ _ W d1 s1)
              have hle0 := nd_le (conB n k v) 40 (ca0 a (16 * 0 + j)) (cb0 b (16 * 0 + j))
              have hle1 := nd_le (conB n k v) 40 (ca1 a (16 * 0 + j)) (cb1 b (16 * 0 + j))
              have hb0 := HBN.out (16 * 0 + j)
              have hb1 : bestOf (impl_talk_need.g n k v a b) 4 (cands a b (16 * 0 + (j + 1))) = min (bestOf (impl_talk_need.g n k v a b) 4 (cands a b (16 * 0 + j))) (1 + max (nd (conB n k v) 40 (ca0 a (16 * 0 + j)) (cb0 b (16 * 0 + j))) (nd (conB n k v) 40 (ca1 a (16 * 0 + j)) (cb1 b (16 * 0 + j)))) := by rw [show 16 * 0 + (j + 1) = 16 * 0 + j + 1 from rfl, cands_hit hck, bestOf_snoc]
              have HB1 := Aside0.mk hb1
              generalize nd (conB n k v) 40 (ca0 a (16 * 0 + j)) (cb0 b (16 * 0 + j)) = R0 at *
              generalize nd (conB n k v) 40 (ca1 a (16 * 0 + j)) (cb1 b (16 * 0 + j)) = R1 at *
              generalize bestOf (impl_talk_need.g n k v a b) 4 (cands a b (16 * 0 + j)) = bb at *
              generalize ca0 a (16 * 0 + j) = a0 at *
              generalize cb0 b (16 * 0 + j) = b0 at *
              generalize ca1 a (16 * 0 + j) = a1 at *
              generalize cb1 b (16 * 0 + j) = b1 at *
              clear hpt hck hmem d0 d1 s0 s1 hb1
              go_wp2_with (first | (go_at_call 37; (with_reducible refine (impl_sides_parted.calls _ _ _ _ _ _ _ _ _ _ _ HPT.out).mono ?_); rintro e w3 ⟨rfl, hb⟩; have hS3 := Aside0.mk (hS.out.below hb); clear hb))
              obtain ⟨G, hG⟩ : ∃ G, G = w3.heap.size := ⟨_, rfl⟩
              obtain ⟨wx, hwx⟩ : ∃ wx, wx = (w3.alloc (.cells #[.int .i64 (a0 : Int), .int .i64 (b0 : Int)] 43)).alloc (.cells #[.int .i64 (a1 : Int), .int .i64 (b1 : Int)] 43) := ⟨_, rfl⟩
              have hX : impl_talk_need.rS w n v k T M ((G + 1, .cells #[.int .i64 (a1 : Int), .int .i64 (b1 : Int)] 43 (0, 0)) :: (G, .cells #[.int .i64 (a0 : Int), .int .i64 (b0 : Int)] 43 (0, 0)) :: [(A, .cells #[.int .u8 65, .int .u8 66] 5 (2, 3)), (w.heap.size, .cells #[.int .i64 (a : Int), .int .i64 (b : Int)] 43 (0, 0))]) wx := by
                have h1 := (hS3.out.below ((Below.refl _ _).alloc (Nat.le_refl _) (.cells #[.int .i64 (a0 : Int), .int .i64 (b0 : Int)] 43))).more (blk_new w3 (.cells #[.int .i64 (a0 : Int), .int .i64 (b0 : Int)] 43))
                have h2 := (h1.below ((Below.refl _ _).alloc (Nat.le_refl _) (.cells #[.int .i64 (a1 : Int), .int .i64 (b1 : Int)] 43))).more (blk_new (w3.alloc (.cells #[.int .i64 (a0 : Int), .int .i64 (b0 : Int)] 43)) (.cells #[.int .i64 (a1 : Int), .int .i64 (b1 : Int)] 43))
                rw [hwx, hG]
                simpa using h2
              rw [← hwx, ← hG]
              have h1 := (hX.below (Below.refl _ _).drew).all
              clear hwx hG hX hS3 c0 c1
              go_region_held3 (fun W => W.cell? ⟨G, 0, none⟩ = some (.int .i64 (a0 : Int)) ∧ W.cell? ⟨G, 1, none⟩ = some (.int .i64 (b0 : Int)) ∧ W.cell? ⟨G + 1, 0, none⟩ = some (.int .i64 (a1 : Int)) ∧ W.cell? ⟨G + 1, 1, none⟩ = some (.int .i64 (b1 : Int)) ∧ impl_talk_need.rS w n v k T M ((G + 1, .cells #[.int .i64 (a1 : Int), .int .i64 (b1 : Int)] 43 (0, 0)) :: (G, .cells #[.int .i64 (a0 : Int), .int .i64 (b0 : Int)] 43 (0, 0)) :: [(A, .cells #[.int .u8 65, .int .u8 66] 5 (2, 3)), (w.heap.size, .cells #[.int .i64 (a : Int), .int .i64 (b : Int)] 43 (0, 0))]) W) (first | exact h1 | assumption | (refine impl_talk_need.rS.sb (by assumption) ?_; assumption)) (first | (go_at_call 20; (with_reducible first | refine (IH0.out _ ?s).mono ?_ | refine (IH1.out _ ?s).mono ?_); (case s => exact impl_talk_need.rS.toS4 (by assumption)); rintro e w4 ⟨rfl, hb⟩))
              all_goals
                rename_i hh
                have h9 := Aside0.mk (hh.2.2.2.2.sub (l' := [(A, .cells #[.int .u8 65, .int .u8 66] 5 (2, 3)), (w.heap.size, .cells #[.int .i64 (a : Int), .int .i64 (b : Int)] 43 (0, 0))]) (fun p hp => List.mem_cons_of_mem _ (List.mem_cons_of_mem _ hp)))
                clear hh h1
                rw [min_val bb R0 R1 (by omega) (by omega), ← HB1.out]
                generalize (if R0 < R1 then (R1 : Int) else (R0 : Int)) = mm
                go_wp2
                go_roundg (16 - (j + 1))
                case measure => omega
                case rel => exact ⟨j + 1, by omega, by omega, by go_num, rfl, h9⟩
          · obtain rfl : j = 16 := by omega
            go_wp2
            go_roundg (2 - (0 + 1))
            case measure => omega
            case rel => exact ⟨0 + 1, by omega, by omega, by go_num, rfl, hS⟩
      · go_wp2
        go_loopg [36, 7] 16 (fun gg v36 v7 wr => ∃ j : Nat, j ≤ 16 ∧ 16 - j ≤ gg ∧ v36 = .int .i64 (j : Int) ∧ v7 = .int .i64 ((bestOf (impl_talk_need.g n k v a b) 4 (cands a b (16 * 1 + j)) : Nat) : Int) ∧ Aside0 (impl_talk_need.rS w n v k T M [(A, .cells #[.int .u8 65, .int .u8 66] 5 (2, 3)), (w.heap.size, .cells #[.int .i64 (a : Int), .int .i64 (b : Int)] 43 (0, 0))] wr))
        case atStart => exact ⟨0, Nat.zero_le _, by omega, rfl, rfl, hS⟩
        case round =>
          clear e0 e1 hS
          obtain ⟨j, hj, hg2, rfl, rfl, hS⟩ := hrel
          by_cases hlt2 : j < 16
          · have hltz2 : (j : Int) < 16 := by omega
            have c0 := blk_cell (hS.out.1 _ (List.mem_cons_of_mem _ (List.mem_cons_self ..))).1 0
            have c1 := blk_cell (hS.out.1 _ (List.mem_cons_of_mem _ (List.mem_cons_self ..))).1 1
            have hpt := impl_talk_need.part1 (a := a) (b := b) (j := j) ha16 hb16 hlt2
            cases hck : cok a b (16 * 1 + j) with
            | false =>
              rw [hck, if_neg (by decide)] at hpt
              have HPT := Aside0.mk hpt
              have HBB := Aside0.mk (cands_miss hck)
              clear hpt hck
              go_wp2_with (first | (go_at_call 37; (with_reducible refine (impl_sides_parted.calls _ _ _ _ _ _ _ _ _ _ _ HPT.out).mono ?_); rintro e w3 ⟨rfl, hb⟩; have hS3 := Aside0.mk (hS.out.below hb); clear hb))
              go_roundg (16 - (j + 1))
              case measure => omega
              case rel => exact ⟨j + 1, by omega, by omega, by go_num, (by rw [show 16 * 1 + (j + 1) = 16 * 1 + j + 1 from rfl, HBB.out]), ⟨hS3.out.below (((Below.refl _ _).alloc (Nat.le_refl _) _).alloc (by simp) _)⟩⟩
            | true =>
              rw [hck, if_pos rfl] at hpt
              have HPT := Aside0.mk hpt
              have hmem : 16 * 1 + j ∈ cands a b 32 := List.mem_filter.mpr ⟨List.mem_range.mpr (by omega), hck⟩
              obtain ⟨d0, d1, s0, s1⟩ := HD.out.cand hmem
              have IH0 := Aside0.mk (fun W => IH.out _ _ W d0 s0)
              have IH1 := Aside0.mk (fun W => IH.out _ _ W d1 s1)
              have hle0 := nd_le (conB n k v) 40 (ca0 a (16 * 1 + j)) (cb0 b (16 * 1 + j))
              have hle1 := nd_le (conB n k v) 40 (ca1 a (16 * 1 + j)) (cb1 b (16 * 1 + j))
              have hb0 := HBN.out (16 * 1 + j)
              have hb1 : bestOf (impl_talk_need.g n k v a b) 4 (cands a b (16 * 1 + (j + 1))) = min (bestOf (impl_talk_need.g n k v a b) 4 (cands a b (16 * 1 + j))) (1 + max (nd (conB n k v) 40 (ca0 a (16 * 1 + j)) (cb0 b (16 * 1 + j))) (nd (conB n k v) 40 (ca1 a (16 * 1 + j)) (cb1 b (16 * 1 + j)))) := by rw [show 16 * 1 + (j + 1) = 16 * 1 + j + 1 from rfl, cands_hit hck, bestOf_snoc]
              have HB1 := Aside0.mk hb1
              generalize nd (conB n k v) 40 (ca0 a (16 * 1 + j)) (cb0 b (16 * 1 + j)) = R0 at *
              generalize nd (conB n k v) 40 (ca1 a (16 * 1 + j)) (cb1 b (16 * 1 + j)) = R1 at *
              generalize bestOf (impl_talk_need.g n k v a b) 4 (cands a b (16 * 1 + j)) = bb at *
              generalize ca0 a (16 * 1 + j) = a0 at *
              generalize cb0 b (16 * 1 + j) = b0 at *
              generalize ca1 a (16 * 1 + j) = a1 at *
              generalize cb1 b (16 * 1 + j) = b1 at *
              clear hpt hck hmem d0 d1 s0 s1 hb1
              go_wp2_with (first | (go_at_call 37; (with_reducible refine (impl_sides_parted.calls _ _ _ _ _ _ _ _ _ _ _ HPT.out).mono ?_); rintro e w3 ⟨rfl, hb⟩; have hS3 := Aside0.mk (hS.out.below hb); clear hb))
              obtain ⟨G, hG⟩ : ∃ G, G = w3.heap.size := ⟨_, rfl⟩
              obtain ⟨wx, hwx⟩ : ∃ wx, wx = (w3.alloc (.cells #[.int .i64 (a0 : Int), .int .i64 (b0 : Int)] 43)).alloc (.cells #[.int .i64 (a1 : Int), .int .i64 (b1 : Int)] 43) := ⟨_, rfl⟩
              have hX : impl_talk_need.rS w n v k T M ((G + 1, .cells #[.int .i64 (a1 : Int), .int .i64 (b1 : Int)] 43 (0, 0)) :: (G, .cells #[.int .i64 (a0 : Int), .int .i64 (b0 : Int)] 43 (0, 0)) :: [(A, .cells #[.int .u8 65, .int .u8 66] 5 (2, 3)), (w.heap.size, .cells #[.int .i64 (a : Int), .int .i64 (b : Int)] 43 (0, 0))]) wx := by
                have h1 := (hS3.out.below ((Below.refl _ _).alloc (Nat.le_refl _) (.cells #[.int .i64 (a0 : Int), .int .i64 (b0 : Int)] 43))).more (blk_new w3 (.cells #[.int .i64 (a0 : Int), .int .i64 (b0 : Int)] 43))
                have h2 := (h1.below ((Below.refl _ _).alloc (Nat.le_refl _) (.cells #[.int .i64 (a1 : Int), .int .i64 (b1 : Int)] 43))).more (blk_new (w3.alloc (.cells #[.int .i64 (a0 : Int), .int .i64 (b0 : Int)] 43)) (.cells #[.int .i64 (a1 : Int), .int .i64 (b1 : Int)] 43))
                rw [hwx, hG]
                simpa using h2
              rw [← hwx, ← hG]
              have h1 := (hX.below (Below.refl _ _).drew).all
              clear hwx hG hX hS3 c0 c1
              go_region_held3 (fun W => W.cell? ⟨G, 0, none⟩ = some (.int .i64 (a0 : Int)) ∧ W.cell? ⟨G, 1, none⟩ = some (.int .i64 (b0 : Int)) ∧ W.cell? ⟨G + 1, 0, none⟩ = some (.int .i64 (a1 : Int)) ∧ W.cell? ⟨G + 1, 1, none⟩ = some (.int .i64 (b1 : Int)) ∧ impl_talk_need.rS w n v k T M ((G + 1, .cells #[.int .i64 (a1 : Int), .int .i64 (b1 : Int)] 43 (0, 0)) :: (G, .cells #[.int .i64 (a0 : Int), .int .i64 (b0 : Int)] 43 (0, 0)) :: [(A, .cells #[.int .u8 65, .int .u8 66] 5 (2, 3)), (w.heap.size, .cells #[.int .i64 (a : Int), .int .i64 (b : Int)] 43 (0, 0))]) W) (first | exact h1 | assumption | (refine impl_talk_need.rS.sb (by assumption) ?_; assumption)) (first | (go_at_call 20; (with_reducible first | refine (IH0.out _ ?s).mono ?_ | refine (IH1.out _ ?s).mono ?_); (case s => exact impl_talk_need.rS.toS4 (by assumption)); rintro e w4 ⟨rfl, hb⟩))
              all_goals
                rename_i hh
                have h9 := Aside0.mk (hh.2.2.2.2.sub (l' := [(A, .cells #[.int .u8 65, .int .u8 66] 5 (2, 3)), (w.heap.size, .cells #[.int .i64 (a : Int), .int .i64 (b : Int)] 43 (0, 0))]) (fun p hp => List.mem_cons_of_mem _ (List.mem_cons_of_mem _ hp)))
                clear hh h1
                rw [min_val bb R0 R1 (by omega) (by omega), ← HB1.out]
                generalize (if R0 < R1 then (R1 : Int) else (R0 : Int)) = mm
                go_wp2
                go_roundg (16 - (j + 1))
                case measure => omega
                case rel => exact ⟨j + 1, by omega, by omega, by go_num, rfl, h9⟩
          · obtain rfl : j = 16 := by omega
            go_wp2
            go_roundg (2 - (1 + 1))
            case measure => omega
            case rel => exact ⟨1 + 1, by omega, by omega, by go_num, rfl, hS⟩
    · obtain rfl : i = 2 := by omega
      have h9 := hS.out
      have hb0 := HBN.out (16 * 2)
      obtain ⟨kl, hkl⟩ := HK.out
      obtain ⟨w2, hrun, hM2, ht2⟩ := h9.2.1.2.drew.store (t := 61) (q := .i64) (a := ((bestOf (impl_talk_need.g n k v a b) 4 (cands a b 32) : Nat) : Int)) impl_talk_need.keyed Try.underlying61 (impl_talk_need.keys_all n v k) impl_talk_need.keys_len Try.underlying3 (wf_nat (by have := HBN.out 32; omega)) hkl HG.out
      have H2 : Aside0 (impl_talk_need.St n v k T M w2 ∧ But M w w2) := ⟨⟨(But.of_turned ht2).blk h9.2.1.ne h9.2.1.1, hM2⟩, h9.2.2.trans ((But.of_below (Below.refl _ _).drew).trans (.of_turned ht2))⟩
      have c0 := blk_cell (h9.1 _ (List.mem_cons_of_mem _ (List.mem_cons_self ..))).1 0
      have c1 := blk_cell (h9.1 _ (List.mem_cons_of_mem _ (List.mem_cons_self ..))).1 1
      have a3 := blk_cell h9.2.1.1 3
      clear hkl hM2 ht2 h9
      go_wp2
      go_region
      go_wp2
      go_ret
      exact ⟨rfl, H2.out⟩
set_option maxHeartbeats 400000 in
theorem impl_talk_need.call (n v k T M : Nat) (hsp : Sp n k) (hv : v < 2 ^ 2 ^ n) : ∀ N a b w, impl_talk_need.Dom n k a b → a + b ≤ N → impl_talk_need.St n v k T M w →
    Calls Try.prog 20 #[.pointer (some ⟨T, 0, none⟩), .agg #[.int .i64 (a : Int), .int .i64 (b : Int)]] w fun e w' => e = .returned (.int .i64 ((nd (conB n k v) 40 a b : Nat) : Int)) ∧ impl_talk_need.St n v k T M w' ∧ But M w w' := by
  intro N
  induction N with
  | zero => intro a b w hd h; have := hd.1.ha; omega
  | succ N ih =>
    intro a b w hd hN hst
    obtain ⟨kl, hkl⟩ := impl_talk_need.key a b hd.1.ha2 hd.1.hb2
    rcases (impl_talk_need.start (a := a) (b := b) hst).2.1.2.look_all (t := 61) impl_talk_need.keyed Try.underlying61 impl_talk_need.zero hkl with hl | ⟨y, hy, hl⟩
    · by_cases hcon : conB n k v a b = true
      · have h0 : nd (conB n k v) 40 a b = 0 := by rw [nd, if_pos hcon]
        rw [h0]
        exact impl_talk_need.same n v k T M a b w hsp hv hd hst hcon hl
      · exact impl_talk_need.step n v k T M a b w hsp hv hd hst hcon (fun a' b' W h1 h2 h3 => ih a' b' W h1 (by omega) h3) hl
    · obtain rfl := hy.at
      exact impl_talk_need.hit n v k T M a b _ w hst hl


end Go.Proofs.Ythkdjccjcpneiaa.Print
