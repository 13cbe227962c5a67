/- Functions of the given program as plain Lean functions, with proofs that their calls compute them, or lemmas on these. Laid by a program of this repo for the seat Ythkdjccjcpneiaa; Lean checks it. -/
import Derived.Test.YthkdjccjcpneiaaKExactDepthSum0
import Derived.Test.YthkdjccjcpneiaaKExactDepthSum1
import Derived.Test.YthkdjccjcpneiaaKExactDepthSum4
import Derived.Test.YthkdjccjcpneiaaM18
import Derived.Shelf.GgClosure.Gives
import Derived.BigQuiet
namespace Go.Proofs.Ythkdjccjcpneiaa.Print
open Go.RowKit Go.Proofs.YthkdjccjcpneiaaW.PrintWords Go.Proofs.YthkdjccjcpneiaaW.PrintLast Go.Proofs.YthkdjccjcpneiaaW.PrintMore
attribute [local go_sem] max2_int min2_int max_two min_two max_three min_three max_four min_four   -- for this text's walks alone
set_option linter.unusedVariables false
set_option linter.unusedSimpArgs false

--OWNPART
/-! ### impl_Table_cube: function 52 -/
--IMPORT M18
--IMPORT Derived.Shelf.GgClosure.Gives
--IMPORT Derived.BigQuiet
open Go.Proofs.Ythkdjccjcpneiaa.M
/-- is the value c told by an input below i of the subcube -/
def impl_Table_cube.seen (v m u : Nat) (c : Bool) (i : Nat) : Bool := ((List.range i).filter (fun x => x &&& m == u)).any (fun x => v.testBit x == c)
theorem impl_Table_cube.seen_hit {v m u i : Nat} (h : i &&& m = u) (c : Bool) : impl_Table_cube.seen v m u c (i + 1) = (impl_Table_cube.seen v m u c i || (v.testBit i == c)) := by
  unfold impl_Table_cube.seen
  rw [List.range_succ, List.filter_append, List.any_append]
  simp [h]
theorem impl_Table_cube.seen_miss {v m u i : Nat} (h : ¬ i &&& m = u) (c : Bool) : impl_Table_cube.seen v m u c (i + 1) = impl_Table_cube.seen v m u c i := by
  unfold impl_Table_cube.seen
  rw [List.range_succ, List.filter_append, List.any_append]
  simp [h]
def impl_Table_cube.val (a b : Bool) : Int := if a = true ∧ b = true then 2 else if b = true then 1 else 0
theorem impl_Table_cube.con {n v m u : Nat} (hl : inX n m u ≠ []) : (impl_Table_cube.val (impl_Table_cube.seen v m u false (2 ^ n)) (impl_Table_cube.seen v m u true (2 ^ n)) = 2) ↔ conL v (inX n m u) = false := by
  have h1 := cubeGo_lt ((inX n m u).map v.testBit) (by simpa using hl)
  have e : ∀ c, impl_Table_cube.seen v m u c (2 ^ n) = (inX n m u).any (fun x => v.testBit x == c) := fun _ => rfl
  unfold conL
  rw [e, e, decide_eq_false_iff_not, h1, List.all_map, List.all_map]
  have t : ∀ c : Bool, (((inX n m u).all ((fun x => x == c) ∘ v.testBit)) = true) ↔ (inX n m u).any (fun x => v.testBit x == !c) = false := fun c => by
    rw [List.all_eq_true, List.any_eq_false]
    constructor
    · intro h x hx; have := h x hx; simp only [Function.comp] at this; revert this; cases v.testBit x <;> cases c <;> simp
    · intro h x hx; have := h x hx; simp only [Function.comp]; revert this; cases v.testBit x <;> cases c <;> simp
  rw [t, t]
  unfold impl_Table_cube.val
  show _ ↔ ¬ (List.any _ (fun x => v.testBit x == false) = false ∨ List.any _ (fun x => v.testBit x == true) = false)
  cases List.any (inX n m u) (fun x => v.testBit x == false) <;> cases List.any (inX n m u) (fun x => v.testBit x == true) <;> simp
theorem impl_Table_cube.at_bit {n v y : Nat} (hv : v < 2 ^ 63) (hy : y ≤ 63) : impl_Table_at.f (n : Int) (v : Int) (y : Int) = some (((v.testBit y).toNat : Nat) : Int) := by
  unfold impl_Table_at.f
  rw [if_pos (Int.natCast_nonneg y), bit_nat hv (by omega)]
theorem impl_Table_cube.size_some (n v : Nat) (hn : n ≤ 5) : impl_Table_size.f (n : Int) (v : Int) = some ((2 ^ n : Nat) : Int) := by
  unfold impl_Table_size.f
  rw [if_pos (Int.natCast_nonneg n), shl_one (by omega)]
set_option maxHeartbeats 4000000 in
set_option maxRecDepth 100000 in
theorem impl_Table_cube.call (n v m u N : Nat) (hn : n ≤ 5) (hN : N = 2 ^ n) (hv : v < 2 ^ 2 ^ n) (hm : m < 2 ^ 32) (hu : u < 2 ^ 32) (w : World) :
    Calls Try.prog 52 #[.agg #[.int .i64 (n : Int), .int .i64 (v : Int)], .int .i64 (m : Int), .int .i64 (u : Int)] w fun e w' => e = .returned (.int .i64 (impl_Table_cube.val (impl_Table_cube.seen v m u false N) (impl_Table_cube.seen v m u true N))) ∧ Below w.heap.size w w' := by
  have huT := Try.underlying25
  have huA := Try.underlying93
  have HSZ := Aside0.mk (impl_Table_cube.size_some n v hn)
  rw [← hN] at HSZ
  have hN32 : N ≤ 32 := by rw [hN]; exact pow_le_5 hn
  have hv63 : v < 2 ^ 63 := Nat.lt_trans hv (full_p63 hn)
  have HAT := Aside0.mk (fun y (hy : y ≤ 63) => impl_Table_cube.at_bit (n := n) (v := v) (y := y) hv63 hy)
  obtain ⟨W0, hW0⟩ : ∃ W0, W0 = (w.alloc (.cells #[.int .i64 (n : Int), .int .i64 (v : Int)] 25)).alloc (.cells #[.bool false, .bool false] 93) := ⟨_, rfl⟩
  have HB : Below w.heap.size w W0 := by rw [hW0]; exact ((Below.refl _ _).alloc (Nat.le_refl _) _).alloc (by simp) _
  have c0 : W0.heap[w.heap.size]? = some (.cells #[.int .i64 (n : Int), .int .i64 (v : Int)] 25 (0, 0)) := by rw [hW0]; exact blk_alloc (blk_new w _) _
  have c1 : W0.heap[w.heap.size + 1]? = some (.cells #[.bool false, .bool false] 93 (0, 0)) := by
    rw [hW0]; have := blk_new (w.alloc (.cells #[.int .i64 (n : Int), .int .i64 (v : Int)] 25)) (.cells #[.bool false, .bool false] 93)
    simpa using this
  have CW := Aside0.mk hW0
  have C0 := Aside0.mk c0
  have C1 := Aside0.mk c1
  have HBB := Aside0.mk HB
  have HM := Aside0.mk hm
  have HU := Aside0.mk hu
  clear hn hN hv hW0 c0 c1 HB hv63 hm hu
  go_enter Try.func52, Try.ntmps52
  go_wp2_with (first | (go_at_call 48; rw [← CW.out]; (with_reducible refine (impl_Table_size.calls _ _ _ _ HSZ.out).mono ?_); rintro e w2 ⟨rfl, hb⟩; have B2 := Aside0.mk hb; clear hb))
  go_loopg [12] N (fun gg v12 wr => ∃ i : Nat, i ≤ N ∧ N - i ≤ gg ∧ v12 = .int .i64 (i : Int) ∧ Aside0 (Below w.heap.size w wr) ∧ Aside0 (wr.heap[w.heap.size]? = some (.cells #[.int .i64 (n : Int), .int .i64 (v : Int)] 25 (0, 0))) ∧ Aside0 (wr.heap[w.heap.size + 1]? = some (.cells #[.bool (impl_Table_cube.seen v m u false i), .bool (impl_Table_cube.seen v m u true i)] 93 (0, 0))))
  case atStart => exact ⟨0, Nat.zero_le _, by omega, rfl, ⟨HBB.out.trans (B2.out.mono HBB.out.size)⟩, ⟨blk_below C0.out B2.out⟩, ⟨blk_below C1.out B2.out⟩⟩
  case round =>
    clear B2
    obtain ⟨i, hi, hg, rfl, HR, HT, HS⟩ := hrel
    by_cases hlt : i < N
    · have hltz : (i : Int) < (N : Int) := by omega
      have c0 := blk_cell HT.out 0
      have c1 := blk_cell HT.out 1
      have ea : Go.bits .and .i64 (i : Int) (m : Int) = ((i &&& m : Nat) : Int) := and_nat (by omega) (by have := HM.out; omega)
      by_cases hq : i &&& m = u
      · have eq : (((i &&& m : Nat) : Int) == (u : Int)) = true := beq_iff_eq.mpr (by omega)
        have HH := Aside0.mk (impl_Table_cube.seen_hit (v := v) hq)
        have HA := Aside0.mk (HAT.out i (by omega))
        clear hq
        cases hb : v.testBit i with
        | true =>
          rw [hb] at HA HH
          clear hb
          go_wp2_with (first | (go_at_call 49; (with_reducible refine (impl_Table_at.calls _ _ _ _ _ HA.out).mono ?_); rintro e w3 ⟨rfl, hb3⟩; have BX := Aside0.mk hb3; clear hb3; have RB := Aside0.mk (blk_below HS.out BX.out); have r0 := blk_cell RB.out 0; have r1 := blk_cell RB.out 1; have s0 := blk_frozen RB.out 0; have s1 := blk_frozen RB.out 1))
          go_roundg (N - (i + 1))
          case measure => omega
          case rel =>
            refine ⟨i + 1, by omega, by omega, by go_num, ⟨(HR.out.trans (BX.out.mono HR.out.size)).setCell (p := ⟨w.heap.size + 1, 1, none⟩) (by show w.heap.size ≤ w.heap.size + 1; omega) _⟩, ⟨blk_far (blk_below HT.out BX.out) (by show w.heap.size ≠ w.heap.size + 1; omega) _⟩, ⟨?_⟩⟩
            have RS := blk_set RB.out 1 (.bool true)
            rw [HH.out, HH.out]
            simpa using RS
        | false =>
          rw [hb] at HA HH
          clear hb
          go_wp2_with (first | (go_at_call 49; (with_reducible refine (impl_Table_at.calls _ _ _ _ _ HA.out).mono ?_); rintro e w3 ⟨rfl, hb3⟩; have BX := Aside0.mk hb3; clear hb3; have RB := Aside0.mk (blk_below HS.out BX.out); have r0 := blk_cell RB.out 0; have r1 := blk_cell RB.out 1; have s0 := blk_frozen RB.out 0; have s1 := blk_frozen RB.out 1))
          go_roundg (N - (i + 1))
          case measure => omega
          case rel =>
            refine ⟨i + 1, by omega, by omega, by go_num, ⟨(HR.out.trans (BX.out.mono HR.out.size)).setCell (p := ⟨w.heap.size + 1, 0, none⟩) (by show w.heap.size ≤ w.heap.size + 1; omega) _⟩, ⟨blk_far (blk_below HT.out BX.out) (by show w.heap.size ≠ w.heap.size + 1; omega) _⟩, ⟨?_⟩⟩
            have RS := blk_set RB.out 0 (.bool true)
            rw [HH.out, HH.out]
            simpa using RS
      · have eq : (((i &&& m : Nat) : Int) == (u : Int)) = false := beq_eq_false_iff_ne.mpr (by omega)
        have HH := Aside0.mk (impl_Table_cube.seen_miss (v := v) hq)
        clear hq
        go_wp2
        go_roundg (N - (i + 1))
        case measure => omega
        case rel =>
          refine ⟨i + 1, by omega, by omega, by go_num, HR, HT, ⟨?_⟩⟩
          rw [HH.out, HH.out]
          exact HS.out
    · obtain rfl : i = N := by omega
      obtain ⟨a, ea⟩ : ∃ a, impl_Table_cube.seen v m u false i = a := ⟨_, rfl⟩
      obtain ⟨b, eb⟩ : ∃ b, impl_Table_cube.seen v m u true i = b := ⟨_, rfl⟩
      rw [ea, eb] at HS
      have EA := Aside0.mk ea
      have EB := Aside0.mk eb
      clear ea eb
      have d0 := blk_cell HS.out 0
      have d1 := blk_cell HS.out 1
      cases a <;> cases b
      all_goals
        go_wp2
        go_ret
        exact ⟨(by rw [EA.out, EB.out]; rfl), HR.out⟩


end Go.Proofs.Ythkdjccjcpneiaa.Print
