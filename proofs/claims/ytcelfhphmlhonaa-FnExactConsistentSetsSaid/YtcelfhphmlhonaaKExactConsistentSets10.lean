/- Functions of the given program as plain Lean functions, with proofs that their calls compute them, or lemmas on these. Laid by a program of this repo for the seat Ytcelfhphmlhonaa; Lean checks it. -/
import Derived.Test.YtcelfhphmlhonaaKExactConsistentSets0
import Derived.Test.YtcelfhphmlhonaaKExactConsistentSets6
import Derived.Test.YtcelfhphmlhonaaKExactConsistentSets8
import Derived.Test.YtcelfhphmlhonaaM5
import Derived.Shelf.GgClosure.Gives
import Derived.Deep.RegionHeld3
namespace Go.Proofs.Ytcelfhphmlhonaa.Print
open Go.RowKit Go.Proofs.YtcelfhphmlhonaaW.PrintWords Go.Proofs.YtcelfhphmlhonaaW.PrintLast Go.Proofs.YtcelfhphmlhonaaW.PrintMore
attribute [local go_sem] max2_int min2_int max_two min_two max_three min_three max_four min_four   -- for this text's walks alone
set_option linter.unusedVariables false
set_option linter.unusedSimpArgs false

--OWNPART
/-! ### impl_consistent: function 80 -/
--IMPORT M5
--IMPORT Derived.Shelf.GgClosure.Gives
--IMPORT Derived.Deep.RegionHeld3
open Go.Proofs.Ytcelfhphmlhonaa.M
/-- is none of a list's sets a part of m -/
def impl_consistent.fresh (out : List Int) (m : Int) : Bool := !(out.any (fun x => Go.bits .andNot .i64 x m == 0))
/-- the least sets among the first ones, where all tell whether they decide -/
def impl_consistent.con (g : Nat → Option Bool) : Nat → Option (List Int)
  | 0 => some []
  | m + 1 => (impl_consistent.con g m).bind fun out => (g m).bind fun d => some (if d = true ∧ impl_consistent.fresh out (m : Int) = true then out ++ [(m : Int)] else out)
theorem impl_consistent.con_mono {g g' : Nat → Option Bool} (h : ∀ i, LeO (g i) (g' i)) : ∀ m, LeO (impl_consistent.con g m) (impl_consistent.con g' m)
  | 0 => LeO.refl _
  | m + 1 => LeO.bind (impl_consistent.con_mono h m) (fun _ => LeO.bind (h m) (fun _ => LeO.refl _))
theorem impl_consistent.con_some {g : Nat → Option Bool} {M : Nat} {r : List Int} (h : impl_consistent.con g M = some r) : ∀ d m, m + d = M → ∃ out, impl_consistent.con g m = some out
  | 0, m, e => ⟨r, by rw [show m = M by omega]; exact h⟩
  | d + 1, m, e => by
    obtain ⟨o, ho⟩ := impl_consistent.con_some h d (m + 1) (by omega)
    rw [impl_consistent.con] at ho
    obtain ⟨out, h1, _⟩ := Option.bind_eq_some_iff.mp ho
    exact ⟨out, h1⟩
theorem impl_consistent.con_len {g : Nat → Option Bool} : ∀ {m : Nat} {r : List Int}, impl_consistent.con g m = some r → r.length ≤ m
  | 0, r, h => by cases Option.some.inj h; simp
  | m + 1, r, h => by
    rw [impl_consistent.con] at h
    obtain ⟨out, h1, h⟩ := Option.bind_eq_some_iff.mp h
    obtain ⟨d, h2, h⟩ := Option.bind_eq_some_iff.mp h
    have := impl_consistent.con_len h1
    have e := Option.some.inj h
    rw [← e]
    split <;> simp <;> omega
def impl_consistent.f (k : Nat) (a0 : Int) (l1 : List (S82)) : Option (List Int) := if 0 ≤ a0 ∧ a0 ≤ 5 then impl_consistent.con (fun m => impl_decides.f k l1 (m : Int)) (2 ^ a0.toNat) else none
theorem impl_consistent.mono : ∀ a0 l1 k, LeO (impl_consistent.f k a0 l1) (impl_consistent.f (k + 1) a0 l1) := by
  intro a0 l1 k
  unfold impl_consistent.f
  exact LeO.ite (impl_consistent.con_mono (fun i => impl_decides.mono _ _ _) _) (LeO.refl _)
theorem impl_consistent.clo (x m : Int) (B : Nat) (w : World) (fm : w.cell? ⟨B, 0, none⟩ = some (.int .i64 m)) :
    Calls Try.prog 105 #[.int .i64 x, .pointer (some ⟨B, 0, none⟩)] w fun e w' => e = .returned (.bool (Go.bits .andNot .i64 x m == 0)) ∧ Below w.heap.size w w' := by
  go_enter Try.func105, Try.ntmps105
  go_wp2_with (fail)
  go_ret
  exact ⟨rfl, by repeat (first | exact Below.refl _ _ | apply pw_below_drewN)⟩
set_option maxHeartbeats 4000000 in
set_option maxRecDepth 100000 in
theorem impl_consistent.good (k : Nat) (n : Nat) (hn : n ≤ 5) (M : Nat) (hM : M = 2 ^ n) (A1 : Option Addr) (c1 : Nat) (l1 : List (S82)) (r : List Int) (w : World) (hr1 : Kd.C k82 w A1 l1.length l1) (hc1 : l1.length ≤ c1) (h : impl_consistent.con (fun m => impl_decides.f k l1 (m : Int)) M = some r) :
    Calls Try.prog 80 #[.int .i64 (n : Int), .slice A1 l1.length c1] w fun e w' => ∃ v0_ : Value, e = .returned v0_ ∧ Kd.R (Kd.int .i64) 3 w' w.heap.size (fun _ => True) v0_ r ∧ Below w.heap.size w w' := by
  have h32 := pow_le_5 hn
  have hHH := Aside0.mk h
  have HR1 := Aside0.mk hr1
  have HC1 := Aside0.mk hc1
  have e10 : wrap64 ((2 : Int) ^ n) = (M : Int) := by
    have : ((2 : Int) ^ n) = ((2 ^ n : Nat) : Int) := by push_cast; rfl
    rw [this, ← hM]
    exact w64 (by omega) (by omega)
  have hM32 : M ≤ 32 := by omega
  clear h hr1 hc1 hM h32
  go_enter Try.func80, Try.ntmps80
  go_wp2
  rw [e10]
  clear e10
  go_loopg [5, 9] M (fun gg v5 v9 w' => ∃ (x : Nat) (out : List Int), x ≤ M ∧ M - x ≤ gg ∧ v9 = .int .i64 (x : Int) ∧ Aside0 (impl_consistent.con (fun m => impl_decides.f k l1 (m : Int)) x = some out) ∧ Aside0 (Kd.R (Kd.int .i64) 3 w' w.heap.size (fun _ => True) v5 out) ∧ Aside0 (Below w.heap.size w w'))
  case atStart => exact ⟨0, [], Nat.zero_le _, by omega, rfl, ⟨rfl⟩, ⟨Kd.R_nil _ _ _ _ _⟩, ⟨Below.refl _ w⟩⟩
  case round =>
    obtain ⟨x, out, hx, hg, rfl, HA, HO, HB⟩ := hrel
    by_cases hlt : x < M
    · have hltz : (x : Int) < (M : Int) := by omega
      obtain ⟨o2, ho2⟩ := impl_consistent.con_some hHH.out (M - (x + 1)) (x + 1) (by omega)
      have ho2' := ho2
      rw [impl_consistent.con, HA.out, Option.bind_some] at ho2'
      obtain ⟨d, hd, he⟩ := Option.bind_eq_some_iff.mp ho2'
      have he := Option.some.inj he
      have hlen := impl_consistent.con_len HA.out
      obtain ⟨Ao, co, rfl⟩ := Kd.R_slice HO.out
      obtain ⟨W1, hW1⟩ : ∃ W1, W1 = wr.alloc (.cells #[.int .i64 (x : Int)] 3) := ⟨_, rfl⟩
      have hB1 : Below wr.heap.size wr W1 := by rw [hW1]; exact (Below.refl _ _).alloc (Nat.le_refl _) _
      have bx : W1.heap[wr.heap.size]? = some (.cells #[.int .i64 (x : Int)] 3 (0, 0)) := by rw [hW1]; exact blk_new wr _
      have HBX : Aside0 (Below w.heap.size w W1) := ⟨HB.out.trans (hB1.mono HB.out.size)⟩
      have HO1 : Aside0 (∀ W, Below W1.heap.size W1 W → Kd.R (Kd.int .i64) 3 W w.heap.size (fun _ => True) (.slice Ao out.length co) out) := ⟨fun W hb => Kd.R_below (Kd.R_below HO.out hB1) hb⟩
      have BX : Aside0 (∀ W, Below W1.heap.size W1 W → W.heap[wr.heap.size]? = some (.cells #[.int .i64 (x : Int)] 3 (0, 0))) := ⟨fun W hb => blk_below bx hb⟩
      have CD : Aside0 (∀ W, Below W1.heap.size W1 W → Calls Try.prog 103 #[.slice A1 l1.length c1, .int .i64 (x : Int)] W fun e W' => e = .returned (.bool d) ∧ Below W.heap.size W W') := ⟨fun W hb => impl_decides.calls k A1 c1 l1 (x : Int) d W (Kd.C_below (Kd.C_below HR1.out HBX.out) hb) HC1.out hd⟩
      have CF : Aside0 (∀ W, Below W1.heap.size W1 W → Calls Try.prog 104 #[.slice Ao out.length co, .func (.func 105) #[] #[.pointer (some ⟨wr.heap.size, 0, none⟩)]] W fun e W' => e = .returned (.bool (!impl_consistent.fresh out (x : Int))) ∧ Below W.heap.size W W') := ⟨fun W hb => by
        have hC := (Kd.R_reads' (HO1.out W hb)).2.2
        have hc := slices_ContainsFunc_int_int.call (fun y => Go.bits .andNot .i64 y (x : Int) == 0) 105 #[.pointer (some ⟨wr.heap.size, 0, none⟩)] (enters_of Try.func105 (by kernel_rfl) rfl) Ao co out W hC hC.2.1 (fun y W' _ hb' => impl_consistent.clo y (x : Int) wr.heap.size W' (blk_cell (blk_below (BX.out W hb) hb') 0))
        unfold impl_consistent.fresh
        rw [Bool.not_not]
        exact hc⟩
      have b0 : (wr.alloc (.cells #[.int .i64 (x : Int)] 3)).cell? ⟨wr.heap.size, 0, none⟩ = some (.int .i64 (x : Int)) := by rw [← hW1]; exact blk_cell bx 0
      have HH2 := Aside0.mk ho2
      have HE := Aside0.mk he
      have HW1 := Aside0.mk hW1
      have HX1 := Aside0.mk hB1
      have HLEN := Aside0.mk hlen
      generalize impl_consistent.fresh out (x : Int) = fr at CF HE
      clear ho2 ho2' hd he hW1 hB1 bx HA HO hlen
      cases d with
      | false =>
        go_wp2_with (first | (go_at_call 103; rw [← HW1.out]; (with_reducible refine (CD.out _ (Below.refl _ _)).mono ?_); rintro e w2 ⟨rfl, hb2⟩; have HB2 := Aside0.mk hb2; clear hb2))
        go_roundg (M - (x + 1))
        case measure => omega
        case rel =>
          refine ⟨x + 1, o2, by omega, by omega, by go_num, HH2, ?_, ⟨HBX.out.trans (HB2.out.mono HBX.out.size)⟩⟩
          rw [← HE.out, if_neg (by simp)]
          exact ⟨HO1.out _ HB2.out⟩
      | true =>
        cases fr with
        | false =>
          go_wp2_with (first | (go_at_call 103; rw [← HW1.out]; (with_reducible refine (CD.out _ (Below.refl _ _)).mono ?_); rintro e w2 ⟨rfl, hb2⟩; have HB2 := Aside0.mk hb2; clear hb2) | (go_at_call 104; (with_reducible refine (CF.out _ HB2.out).mono ?_); rintro e w3 ⟨rfl, hb3⟩; have HB3 := Aside0.mk (HB2.out.trans (hb3.mono HB2.out.size)); clear hb3))
          go_roundg (M - (x + 1))
          case measure => omega
          case rel =>
            refine ⟨x + 1, o2, by omega, by omega, by go_num, HH2, ?_, ⟨HBX.out.trans (HB3.out.mono HBX.out.size)⟩⟩
            rw [← HE.out, if_neg (by simp)]
            exact ⟨HO1.out _ HB3.out⟩
        | true =>
          go_wp2_with (first | (go_at_call 103; rw [← HW1.out]; (with_reducible refine (CD.out _ (Below.refl _ _)).mono ?_); rintro e w2 ⟨rfl, hb2⟩; have HB2 := Aside0.mk hb2; clear hb2) | (go_at_call 104; (with_reducible refine (CF.out _ HB2.out).mono ?_); rintro e w3 ⟨rfl, hb3⟩; have HB3 := Aside0.mk (HB2.out.trans (hb3.mono HB2.out.size)); clear hb3; have b3 : w3.cell? ⟨wr.heap.size, 0, none⟩ = some (.int .i64 (x : Int)) := blk_cell (BX.out _ HB3.out) 0; have HO3 := Aside0.mk (HO1.out _ HB3.out); have HBB := Aside0.mk (HBX.out.trans (HB3.out.mono HBX.out.size))) | ((with_reducible refine gate_builtin (b := .append) (xs := #[.tmp 21, .tmp 23]) rfl ?_); at_builtin; refine Kd.R_append (Kd.int .i64) (w0 := w) w.heap.size rfl (.tmp 21) (.tmp 23) 56 3 (.int .i64 0) 8 rfl Try.underlying56 info3 rfl (by decide) (by omega) (.slice Ao out.length co) out (x : Int) [.int .i64 (x : Int)] (fun _ => True) (fun _ => False) rfl rfl ?aP (fun _ hk => hk.elim) ?aF ?aO ?aB ?aS ?aL ?_; (case aP => exact rfl); (case aB => exact (by repeat (first | (with_reducible first | exact HBB.out | apply below_alloc | apply pw_below_drewN | apply below_drew1) | exact HBB.out))); (case aF => exact (fun _ _ => trivial)); (case aO => exact (by (with_reducible repeat (first | apply Kd.R_alloc | apply Kd.R_drewN | apply Kd.R_drew)); exact HO3.out)); (case aS => exact (below_size (by repeat (first | (with_reducible first | exact HBB.out | apply below_alloc | apply pw_below_drewN | apply below_drew1) | exact HBB.out)))); (case aL => have := HLEN.out; omega); intro v133 w19 ho hb hg hat; have HO4 := Aside0.mk ho; have HB4 := Aside0.mk hb; clear ho hb hg hat))
          go_roundg (M - (x + 1))
          case measure => omega
          case rel =>
            refine ⟨x + 1, o2, by omega, by omega, by go_num, HH2, ?_, HB4⟩
            rw [← HE.out, if_pos (by simp)]
            exact HO4
    · obtain rfl : x = M := by omega
      have hre : r = out := Option.some.inj (hHH.out.symm.trans HA.out)
      subst hre
      go_wp2
      go_ret
      exact ⟨_, rfl, HO.out, HB.out⟩
theorem impl_consistent.calls (k : Nat) (a0 : Int) (A1 : Option Addr) (c1 : Nat) (l1 : List (S82)) (r : List Int) (w : World) (hr1 : Kd.C k82 w A1 l1.length l1) (hc1 : l1.length ≤ c1) (h : impl_consistent.f k a0 l1 = some r) :
    Calls Try.prog 80 #[.int .i64 a0, .slice A1 l1.length c1] w fun e w' => ∃ v0_ : Value, e = .returned v0_ ∧ Kd.R (Kd.int .i64) 3 w' w.heap.size (fun _ => True) v0_ r ∧ Below w.heap.size w w' := by
  unfold impl_consistent.f at h
  by_cases hb : 0 ≤ a0 ∧ a0 ≤ 5
  · rw [if_pos hb] at h
    obtain ⟨n, rfl⟩ := nat_of hb.1
    rw [Int.toNat_natCast] at h
    exact impl_consistent.good k n (by omega) (2 ^ n) rfl A1 c1 l1 r w hr1 hc1 h
  · rw [if_neg hb] at h; cases h


end Go.Proofs.Ytcelfhphmlhonaa.Print
