import Derived.Test.YtloekoepknfodaaProg
import Derived.Below
import Derived.Deep.Draws
import Derived.Deep.AppendLies
import Derived.Maps.AppendAt
import Derived.OwnWalk
import Derived.Laws.BytesArg
import Derived.Laws.MakeOwn
import Derived.Laws.OwnMore
import Derived.Deep.OwnRows
import Derived.Tactics
import Derived.Lib.ConvBytes
import Derived.Laws.Slices
import Derived.WalkKit
import Derived.KernelRfl
import Derived.RowKit3
import Derived.Deep.LoopGhost
import Derived.Deep.QuietTactic
import Derived.BigQuiet
import Derived.WideLaws
import Derived.Deep.DeepCutAuto
import Derived.Deep.CutBlock
import Derived.Deep.RegionHeld3
import Derived.Laws.Rows
import Derived.Lib.AppendStr
import Derived.ArgAppend
import Derived.Laws.IdiomCopy
import Derived.OrdersHeld
import Derived.Laws.BitsLemmas
import Derived.RowKit
import Derived.Test.YtloekoepknfodaaWWords
import Derived.Test.YtloekoepknfodaaWLast
import Derived.Test.YtloekoepknfodaaWTab
import Derived.Test.YtloekoepknfodaaWFour
import Derived.Test.YtloekoepknfodaaWQPut
import Derived.Test.YtloekoepknfodaaWApart
import Derived.Test.YtloekoepknfodaaWArr
import Derived.Test.YtloekoepknfodaaWZeros
import Derived.Test.YtloekoepknfodaaWFoot
import Derived.Test.YtloekoepknfodaaWKept
import Derived.Test.YtloekoepknfodaaWShare
import Derived.Test.YtloekoepknfodaaWN
import Derived.Test.YtloekoepknfodaaWFootNe
import Derived.Test.YtloekoepknfodaaWAt
import Derived.Test.YtloekoepknfodaaWEqStruct
import Derived.Test.YtloekoepknfodaaWRepsOne
import Derived.Test.YtloekoepknfodaaWInv
import Derived.Test.YtloekoepknfodaaWInvWords
import Derived.Test.YtloekoepknfodaaWGuard
import Derived.Test.YtloekoepknfodaaWNEv
import Derived.Test.YtloekoepknfodaaWMore
import Derived.Test.YtloekoepknfodaaM40
import Derived.Shelf.GgClosure.Gives
namespace Go.Proofs.Ytloekoepknfodaa.Print
open Go.RowKit Go.Proofs.YtloekoepknfodaaW.PrintWords Go.Proofs.YtloekoepknfodaaW.PrintLast Go.Proofs.YtloekoepknfodaaW.PrintMore
attribute [local go_sem] max2_int min2_int max_two min_two max_three min_three max_four min_four   -- for this text's walks alone
set_option linter.unusedVariables false
set_option linter.unusedSimpArgs false
def errW : Option Int → Value
 | none => .nilIface
 | some c => .iface 0 (.int .i64 c)
theorem errW_none : errW none = .nilIface := rfl
theorem errW_some (c : Int) : errW (some c) = .iface 0 (.int .i64 c) := rfl
theorem shl_u_nn (x y : Int) : 0 ≤ shl .u64 x y := by
 unfold shl
 simp only [IntKind.wrap, IntKind.bits, IntKind.signed]
 exact Int.emod_nonneg _ (by decide)
theorem info3 : (Try.prog.info? 3).map (fun i => (i.zero, i.size, i.bytes)) = some (some (.int .i64 0), 1, 8) := by kernel_rfl
structure S25 where
 f0 : Int
 f1 : Int
end Go.Proofs.Ytloekoepknfodaa.Print
namespace Go.Proofs.Ytloekoepknfodaa.Print
open Go.RowKit Go.Proofs.YtloekoepknfodaaW.PrintWords Go.Proofs.YtloekoepknfodaaW.PrintLast Go.Proofs.YtloekoepknfodaaW.PrintMore
attribute [local go_sem] max2_int min2_int max_two min_two max_three min_three max_four min_four   -- for this text's walks alone
set_option linter.unusedVariables false
set_option linter.unusedSimpArgs false
theorem eqA25 (d : Nat) (w : World) (x0 y0 : Int) (x1 y1 : Int) :
  (Op.equalIn (d + 2) 25 (.agg #[.int .i64 x0, .int .i64 x1]) (.agg #[.int .i64 y0, .int .i64 y1])).run Try.prog w = .ok (x0 == y0 && (x1 == y1)) w := by
 refine eqA_of Try.underlying25 kr_ ?_
 refine eqf_cons (by rfl) (by go_simp; rfl) (by go_simp; rfl) (by go_simp) ?_
 exact eqf_last (by rfl) (by go_simp; rfl) (by go_simp; rfl) (by go_simp)
end Go.Proofs.Ytloekoepknfodaa.Print
namespace Go.Proofs.Ytloekoepknfodaa.Print
open Go.RowKit Go.Proofs.YtloekoepknfodaaW.PrintWords Go.Proofs.YtloekoepknfodaaW.PrintLast Go.Proofs.YtloekoepknfodaaW.PrintMore
attribute [local go_sem] max2_int min2_int max_two min_two max_three min_three max_four min_four   -- for this text's walks alone
set_option linter.unusedVariables false
set_option linter.unusedSimpArgs false
open Go.Proofs.Ytloekoepknfodaa.M
def slices_IndexFunc_int_int.idx (p : Int → Bool) (l : List Int) : Int := match l.findIdx? p with | some i => (i : Int) | none => -1
theorem slices_IndexFunc_int_int.hit (p : Int → Bool) (l : List Int) (k : Nat) (hk : k < l.length) (h : p (l.getD k 0) = true) (hb : ∀ j, j < k → p (l.getD j 0) = false) : slices_IndexFunc_int_int.idx p l = (k : Int) := by
 have e : l.findIdx? p = some k := by
  rw [List.findIdx?_eq_some_iff_getElem]
  refine ⟨hk, ?_, fun j hj => ?_⟩
  ·simpa [List.getD_eq_getElem?_getD, hk] using h
  ·have := hb j hj
   simpa [List.getD_eq_getElem?_getD, show j < l.length by omega] using this
 unfold slices_IndexFunc_int_int.idx; rw [e]
theorem slices_IndexFunc_int_int.miss (p : Int → Bool) (l : List Int) (hb : ∀ j, j < l.length → p (l.getD j 0) = false) : slices_IndexFunc_int_int.idx p l = -1 := by
 have e : l.findIdx? p = none := by
  rw [List.findIdx?_eq_none_iff]
  intro x hx
  obtain ⟨j, hj, rfl⟩ := List.getElem_of_mem hx
  have := hb j hj
  simpa [List.getD_eq_getElem?_getD, hj] using this
 unfold slices_IndexFunc_int_int.idx; rw [e]
theorem slices_IndexFunc_int_int.idx_any (p : Int → Bool) (l : List Int) : decide (0 ≤ slices_IndexFunc_int_int.idx p l) = l.any p := by
 unfold slices_IndexFunc_int_int.idx
 cases h : l.findIdx? p with
 | none =>
  rw [List.findIdx?_eq_none_iff] at h
  have : l.any p = false := List.any_eq_false.mpr (fun x hx => by rw [h x hx]; decide)
  rw [this]; rfl
 | some i =>
  rw [List.findIdx?_eq_some_iff_getElem] at h
  obtain ⟨hi, h1, _⟩ := h
  have : l.any p = true := List.any_eq_true.mpr ⟨_, List.getElem_mem hi, h1⟩
  rw [this]
  exact decide_eq_true (Int.natCast_nonneg i)
set_option maxHeartbeats 2000000 in
theorem slices_IndexFunc_int_int.call (p : Int → Bool) (g : Nat) (lb : Array Value) (eg : ∀ args w, (callFunc g args).run Try.prog w = .ok (.enter g args) w) (A : Option Addr) (c : Nat) (l : List Int) (w : World) (hr : Kd.C (Kd.int .i64) w A l.length l) (hm : l.length ≤ 9223372036854775807)
  (hp : ∀ (x : Int) (W : World), x ∈ l → Below w.heap.size w W → Calls Try.prog g (#[.int .i64 x] ++ lb) W fun e W' => e = .returned (.bool (p x)) ∧ Below W.heap.size W W') :
  Calls Try.prog 65 #[.slice A l.length c, .func (.func g) #[] lb] w fun e w' => e = .returned (.int .i64 (slices_IndexFunc_int_int.idx p l)) ∧ Below w.heap.size w w' := by
 have HR := A_ hr; have HP := A_ hp; clear hr hp
 go_enter Try.func65, Try.ntmps65
 go_wp2
 go_loopg [5, 8] l.length (fun gg _ s8 wr => ∃ kk : Nat, kk ≤ l.length ∧ l.length - kk ≤ gg ∧ s8 = .int .i64 (kk : Int) ∧ Aside0 (Below w.heap.size w wr) ∧ Aside0 (∀ j, j < kk → p (l.getD j 0) = false))
 case atStart => exact ⟨0, Nat.zero_le _, by omega, rfl, ⟨Below.refl _ w⟩, ⟨fun j hj => absurd hj (Nat.not_lt_zero _)⟩⟩
 case round =>
  obtain ⟨kk, hkk, hg, rfl, BW, HA⟩ := hrel
  by_cases hlt : kk < l.length
  ·have hltz : (kk : Int) < (l.length : Int) := by omega
   obtain ⟨ad, ea, c0⟩ := Kd.at_int (Kd.C_below HR.out BW.out) (kk : Int) (by omega) hltz
   cases ea
   have hy : rd l (kk : Int) = l.getD kk 0 := by simp [rd]
   have hmem : rd l (kk : Int) ∈ l := by
    rw [hy, List.getD_eq_getElem?_getD, List.getElem?_eq_getElem hlt]; exact List.getElem_mem hlt
   have hcall := HP.out (rd l (kk : Int)) wr hmem BW.out
   clear hmem
   generalize rd l (kk : Int) = y at c0 hcall hy
   have HY := A_ hy; clear hy
   simp only [Int.toNat_natCast] at c0
   have HC := A_ hcall; clear hcall
   cases hq : p y with
   | true =>
    rw [hq] at HC
    go_wp2_with (go_at_fn g; refine HC.out.mono ?_; rintro e w' ⟨rfl, hb'⟩)
    go_ret
    refine ⟨?_, BW.out.trans (hb'.mono BW.out.size)⟩
    rw [slices_IndexFunc_int_int.hit p l kk hlt (by rw [← HY.out]; exact hq) HA.out]
    rfl
   | false =>
    rw [hq] at HC
    go_wp2_with (go_at_fn g; refine HC.out.mono ?_; rintro e w' ⟨rfl, hb'⟩)
    go_roundg (l.length - (kk + 1))
    case measure => omega
    case rel =>
     refine ⟨kk + 1, by omega, by omega, by go_num, ⟨BW.out.trans (hb'.mono BW.out.size)⟩, ⟨fun j hj => ?_⟩⟩
     by_cases e : j = kk
     ·subst e
      rw [← HY.out]; exact hq
     ·exact HA.out j (by omega)
  ·have hltz : ¬ (kk : Int) < (l.length : Int) := by omega
   have hkl : kk = l.length := by omega
   go_wp2
   go_ret
   refine ⟨?_, BW.out⟩
   rw [slices_IndexFunc_int_int.miss p l (fun j hj => HA.out j (by omega))]
   rfl
end Go.Proofs.Ytloekoepknfodaa.Print
namespace Go.Proofs.Ytloekoepknfodaa.Print
open Go.RowKit Go.Proofs.YtloekoepknfodaaW.PrintWords Go.Proofs.YtloekoepknfodaaW.PrintLast Go.Proofs.YtloekoepknfodaaW.PrintMore
attribute [local go_sem] max2_int min2_int max_two min_two max_three min_three max_four min_four   -- for this text's walks alone
set_option linter.unusedVariables false
set_option linter.unusedSimpArgs false
open Go.Proofs.Ytloekoepknfodaa.M
theorem slices_ContainsFunc_int_int.call (p : Int → Bool) (g : Nat) (lb : Array Value) (eg : ∀ args w, (callFunc g args).run Try.prog w = .ok (.enter g args) w) (A : Option Addr) (c : Nat) (l : List Int) (w : World) (hr : Kd.C (Kd.int .i64) w A l.length l) (hm : l.length ≤ 9223372036854775807)
  (hp : ∀ (x : Int) (W : World), x ∈ l → Below w.heap.size w W → Calls Try.prog g (#[.int .i64 x] ++ lb) W fun e W' => e = .returned (.bool (p x)) ∧ Below W.heap.size W W') :
  Calls Try.prog 40 #[.slice A l.length c, .func (.func g) #[] lb] w fun e w' => e = .returned (.bool (l.any p)) ∧ Below w.heap.size w w' := by
 have HI := A_ (slices_IndexFunc_int_int.call p g lb eg A c l w hr hm hp)
 have hv := slices_IndexFunc_int_int.idx_any p l
 clear hp
 generalize slices_IndexFunc_int_int.idx p l = ix at *
 rw [← hv]
 clear hv
 go_enter Try.func40, Try.ntmps40
 go_wp2_with (first | (go_at_call 65; (with_reducible refine HI.out.mono ?_); rintro e w1 ⟨rfl, hb1⟩))
 go_ret
 exact ⟨rfl, hb1⟩
end Go.Proofs.Ytloekoepknfodaa.Print
namespace Go.Proofs.Ytloekoepknfodaa.Print
open Go.RowKit Go.Proofs.YtloekoepknfodaaW.PrintWords Go.Proofs.YtloekoepknfodaaW.PrintLast Go.Proofs.YtloekoepknfodaaW.PrintMore
attribute [local go_sem] max2_int min2_int max_two min_two max_three min_three max_four min_four   -- for this text's walks alone
set_option linter.unusedVariables false
set_option linter.unusedSimpArgs false
open Go.Proofs.Ytloekoepknfodaa.M
def impl_makeTable.I (w : World) (N : Nat) (g : Nat → Bool) (x : Nat) (W : World) : Prop :=
 W.heap[w.heap.size]? = some (.cells #[.int .i64 0, .int .i64 0] 25 (0, 0)) ∧ W.heap[w.heap.size + 1]? = some (.cells #[.int .i64 (N : Int), .int .i64 ((prefW g x : Nat) : Int)] 25 (0, 0)) ∧ Below w.heap.size w W
theorem impl_makeTable.I.start (w : World) (N : Nat) (g : Nat → Bool) : impl_makeTable.I w N g 0 ((w.alloc (.cells #[.int .i64 0, .int .i64 0] 25)).alloc (.cells #[.int .i64 (N : Int), .int .i64 0] 25)) := by
 refine ⟨blk_alloc (blk_new w _) _, ?_, ((Below.refl _ _).alloc (Nat.le_refl _) _).alloc (by simp) _⟩
 have := blk_new (w.alloc (.cells #[.int .i64 0, .int .i64 0] 25)) (.cells #[.int .i64 (N : Int), .int .i64 0] 25)
 simpa [prefW] using this
theorem impl_makeTable.I.call {w : World} {N : Nat} {g : Nat → Bool} {x : Nat} {W W' : World} (h : impl_makeTable.I w N g x W) (hb : Below W.heap.size W W') : impl_makeTable.I w N g x W' :=
 ⟨blk_below h.1 hb, blk_below h.2.1 hb, h.2.2.trans (hb.mono h.2.2.size)⟩
theorem impl_makeTable.I.skip {w : World} {N : Nat} {g : Nat → Bool} {x : Nat} {W : World} (h : impl_makeTable.I w N g x W) (hg : g x = false) : impl_makeTable.I w N g (x + 1) W := by
 unfold impl_makeTable.I; rw [prefW_skip hg]; exact h
theorem impl_makeTable.I.set {w : World} {N : Nat} {g : Nat → Bool} {x : Nat} {W : World} (h : impl_makeTable.I w N g x W) (hg : g x = true) (hx : x ≤ 61) {u : Int} (hu : u = Go.bits .or .i64 ((prefW g x : Nat) : Int) (shl .i64 1 (x : Int))) :
  impl_makeTable.I w N g (x + 1) (W.setCell ⟨w.heap.size + 1, 1, none⟩ (.int .i64 u)) := by
 rw [prefW_step_one hx hg] at hu
 subst hu
 exact ⟨blk_far h.1 (by show w.heap.size ≠ w.heap.size + 1; omega) _, by simpa using blk_set h.2.1 1 (.int .i64 ((prefW g (x + 1) : Nat) : Int)), h.2.2.setCell (by show w.heap.size ≤ w.heap.size + 1; omega) _⟩
theorem impl_makeTable.I.drew {w : World} {N : Nat} {g : Nat → Bool} {x : Nat} {W : World} (h : impl_makeTable.I w N g x W) : impl_makeTable.I w N g x W.drew := ⟨h.1, h.2.1, h.2.2.drew⟩
end Go.Proofs.Ytloekoepknfodaa.Print
namespace Go.Proofs.Ytloekoepknfodaa.Print
open Go.RowKit Go.Proofs.YtloekoepknfodaaW.PrintWords Go.Proofs.YtloekoepknfodaaW.PrintLast Go.Proofs.YtloekoepknfodaaW.PrintMore
attribute [local go_sem] max2_int min2_int max_two min_two max_three min_three max_four min_four   -- for this text's walks alone
set_option linter.unusedVariables false
set_option linter.unusedSimpArgs false
set_option maxHeartbeats 8000000
set_option maxRecDepth 100000
def laws_big.f (l0 : List Int) : Option (Bool) := some (decide ((l0.length : Int) > 1048576))
theorem laws_big.calls (A0 : Option Addr) (c0 : Nat) (l0 : List Int) (r : Bool) (w : World) (hr0 : Kd.C (Kd.int .u8) w A0 l0.length l0) (hc0 : l0.length ≤ c0) (h : laws_big.f l0 = some r) :
  Calls Try.prog 4 #[.slice A0 l0.length c0] w fun e w' => e = .returned (.bool r) ∧ Drawn0 w w' := by
 have HR0 := A_ hr0; have HC0 := A_ hc0; clear hr0 hc0
 have H : (some (decide ((l0.length : Int) > 1048576))) = some r := h
 clear h
 obtain rfl := Option.some.inj H
 go_enter Try.func4, Try.ntmps4
 go_wp2
 go_ret
 exact ⟨q1_, q9_⟩
def spec_l1In.f (a0 : Int) (a1 : Int) (a2 : Int) : Option (Bool) := if a0 ≥ a1 then (some (decide (a0 ≤ a2))) else (some false)
theorem spec_l1In.calls (a0 : Int) (a1 : Int) (a2 : Int) (r : Bool) (w : World) (h : spec_l1In.f a0 a1 a2 = some r) :
  Calls Try.prog 49 #[.int .i64 a0, .int .i64 a1, .int .i64 a2] w fun e w' => e = .returned (.bool r) ∧ Drawn0 w w' := by
 have H : (if a0 ≥ a1 then (some (decide (a0 ≤ a2))) else (some false)) = some r := h
 clear h
 by_cases c4 : a0 ≥ a1
 ·rw [if_pos c4] at H
  have c4b0 : decide (a1 ≤ a0) = true := decide_eq_true c4
  clear c4
  obtain rfl := Option.some.inj H
  go_enter Try.func49, Try.ntmps49
  go_wp2
  go_ret
  exact ⟨q1_, q9_⟩
 ·rw [if_neg c4] at H
  have c4b0 : decide (a1 ≤ a0) = false := decide_eq_false c4
  clear c4
  obtain rfl := Option.some.inj H
  go_enter Try.func49, Try.ntmps49
  go_wp2
  go_ret
  exact ⟨q1_, q9_⟩
def spec_l16Sum.l0 : Nat → List Int → Int → Int → Int → Option (Int)
 | 0, _, _, _, _ => none
 | k + 1, x0, x1, x5, x6 => if x6 < (x0.length : Int) then (if 0 ≤ x6 then (if (Go.bits .and .i64 (shr .i64 x1 x6) 1) = 1 then (spec_l16Sum.l0 k x0 x1 (wrap64 (x5 + (rd x0 x6))) (wrap64 (x6 + 1))) else (spec_l16Sum.l0 k x0 x1 x5 (wrap64 (x6 + 1)))) else (none)) else (some x5)
def spec_l16Sum.f (k : Nat) (l0 : List Int) (a1 : Int) : Option (Int) := spec_l16Sum.l0 k l0 a1 0 0
theorem spec_l16Sum.calls (k : Nat) (A0 : Option Addr) (c0 : Nat) (l0 : List Int) (a1 : Int) (r : Int) (w : World) (hr0 : Kd.C (Kd.int .i64) w A0 l0.length l0) (hc0 : l0.length ≤ c0) (h : spec_l16Sum.f k l0 a1 = some r) :
  Calls Try.prog 53 #[.slice A0 l0.length c0, .int .i64 a1] w fun e w' => e = .returned (.int .i64 r) ∧ Drawn0 w w' := by
 have HR0 := A_ hr0; have HC0 := A_ hc0; clear hr0 hc0
 have H : (spec_l16Sum.l0 k l0 a1 0 0) = some r := h
 clear h
 have H' := A_ H
 clear H
 go_enter Try.func53, Try.ntmps53
 go_wp2
 go_loopg [5, 6] k (fun kq v5 v6 w' => ∃ (x5_1 : Int) (x6_1 : Int), v5 = .int .i64 x5_1 ∧ v6 = .int .i64 x6_1 ∧ Aside0 (spec_l16Sum.l0 kq l0 a1 x5_1 x6_1 = some r) ∧ Aside0 (kq ≤ k) ∧ Drawn0 w w')
 case atStart => exact ⟨(0), (0), q1_, q1_, H', ⟨Nat.le_refl _⟩, q9_⟩
 case round =>
  clear H'; (try clear p2)
  obtain ⟨x5_1, x6_1, rfl, rfl, HA, HK1, ⟨m1, rfl⟩⟩ := hrel
  cases gk with
  | zero => exact absurd HA.out (by simp [spec_l16Sum.l0])
  | succ k1 =>
   have H := HA.out
   clear HA
   simp only [spec_l16Sum.l0] at H
   by_cases c3 : x6_1 < (l0.length : Int)
   ·rw [if_pos c3] at H
    have c3b0 : decide (x6_1 < (l0.length : Int)) = true := decide_eq_true c3
    clear c3
    by_cases c4 : 0 ≤ x6_1
    ·rw [if_pos c4] at H
     have c4b0 := eq_true c4
     have c4b1 : decide (0 ≤ x6_1) = true := decide_eq_true c4
     clear c4
     obtain ⟨ji5, hji5⟩ : ∃ j_ : Int, (shr .i64 a1 x6_1) = j_ := ⟨_, rfl⟩
     replace H : (if (Go.bits .and .i64 (ji5) 1) = 1 then (spec_l16Sum.l0 k1 l0 a1 (wrap64 (x5_1 + (rd l0 x6_1))) (wrap64 (x6_1 + 1))) else (spec_l16Sum.l0 k1 l0 a1 x5_1 (wrap64 (x6_1 + 1)))) = some r := q13_
     have hji5_ : (a1 / 2 ^ min x6_1.toNat 64) = ji5 := hji5
     have hji5z : x6_1 ≤ 64 → (a1 / 2 ^ x6_1.toNat) = ji5 := shr_small hji5
     by_cases c6 : (Go.bits .and .i64 (ji5) 1) = 1
     ·rw [if_pos c6] at H
      have c6b0 : ((Go.bits .and .i64 (ji5) 1) == 1) = true := beq_iff_eq.mpr c6
      have c6b1 : ((Go.bits .and .i64 (ji5) 1) != 1) = false := bne_eq_false_iff_eq.mpr c6
      clear c6
      have H' := A_ H
      clear H
      have p101 : 0 ≤ (x6_1 : Int) := of_decide_eq_true q5_
      have q101 : x6_1 < (l0.length : Int) := of_decide_eq_true q5_
      obtain ⟨ad101, e101, hx101_0⟩ := Kd.at_int HR0.out x6_1 p101 q101
      cases e101
      replace p101 := eq_true p101
      replace q101 := eq_true q101
      go_wp2
      go_roundg k1
      case measure => have := HK1.out; omega
      case rel => exact ⟨(wrap64 (x5_1 + (rd l0 x6_1))), (wrap64 (x6_1 + 1)), q1_, q1_, H', ⟨by have := HK1.out; omega⟩, q9_⟩
     ·rw [if_neg c6] at H
      have c6b0 : ((Go.bits .and .i64 (ji5) 1) == 1) = false := beq_eq_false_iff_ne.mpr c6
      have c6b1 : ((Go.bits .and .i64 (ji5) 1) != 1) = true := bne_iff_ne.mpr c6
      have H' := A_ H
      clear H
      go_wp2
      go_roundg k1
      case measure => have := HK1.out; omega
      case rel => exact ⟨(x5_1), (wrap64 (x6_1 + 1)), q1_, q1_, H', ⟨by have := HK1.out; omega⟩, q9_⟩
    ·rw [if_neg c4] at H
     exact absurd H (by simp)
   ·rw [if_neg c3] at H
    have c3b0 : decide (x6_1 < (l0.length : Int)) = false := decide_eq_false c3
    clear c3
    obtain rfl := Option.some.inj H
    go_wp2
    go_ret
    exact ⟨q1_, q9_⟩
mutual
def spec_TableOfWeights.l0 : Nat → List Int → Int → Int → Option (Int × Int × Bool)
 | 0, _, _, _ => none
 | k + 1, x0, x1, x6 => if x6 < (x0.length : Int) then (if 0 ≤ x6 then ((spec_l1In.f (rd x0 x6) (-100) 100).bind fun t104 => (if t104 = true then (spec_TableOfWeights.l0 k x0 x1 (wrap64 (x6 + 1))) else (some (0, 0, false)))) else (none)) else (if (x0.length : Int) > 5 then (spec_TableOfWeights.j1 k x0 x1 true) else ((spec_l1In.f x1 (-1000) 1000).bind fun t105 => (spec_TableOfWeights.j1 k x0 x1 (!t105))))
def spec_TableOfWeights.j1 : Nat → List Int → Int → Bool → Option (Int × Int × Bool)
 | 0, _, _, _ => none
 | k + 1, x0, x1, x29 => if x29 = true then (some (0, 0, false)) else (spec_TableOfWeights.l1 k x0 x1 0 0)
def spec_TableOfWeights.l1 : Nat → List Int → Int → Int → Int → Option (Int × Int × Bool)
 | 0, _, _, _, _ => none
 | k + 1, x0, x1, x7, x8 => if x8 < (shl .i64 1 (x0.length : Int)) then ((spec_l16Sum.f k x0 x8).bind fun t106 => (if t106 ≥ x1 then (if 0 ≤ x8 then (spec_TableOfWeights.l1 k x0 x1 (Go.bits .or .i64 x7 (shl .i64 1 x8)) (wrap64 (x8 + 1))) else (none)) else (spec_TableOfWeights.l1 k x0 x1 x7 (wrap64 (x8 + 1))))) else (some ((x0.length : Int), x7, true))
end
def spec_TableOfWeights.f (k : Nat) (l0 : List Int) (a1 : Int) : Option (Int × Int × Bool) := spec_TableOfWeights.l0 k l0 a1 0
theorem spec_TableOfWeights.calls (k : Nat) (A0 : Option Addr) (c0 : Nat) (l0 : List Int) (a1 : Int) (r1 : Int) (r2 : Int) (r3 : Bool) (w : World) (hr0 : Kd.C (Kd.int .i64) w A0 l0.length l0) (hc0 : l0.length ≤ c0) (h : spec_TableOfWeights.f k l0 a1 = some (r1, r2, r3)) :
  Calls Try.prog 18 #[.slice A0 l0.length c0, .int .i64 a1] w fun e w' => e = .returned (.tuple #[.agg #[.int .i64 r1, .int .i64 r2], .bool r3]) ∧ Below w.heap.size w w' := by
 have hu25 := Try.underlying25
 have HR0 := A_ hr0; have HC0 := A_ hc0; clear hr0 hc0
 have HB := A_ (Below.refl w.heap.size w)
 have H : (spec_TableOfWeights.l0 k l0 a1 0) = some (r1, r2, r3) := h
 clear h
 have H' := A_ H
 clear H
 go_enter Try.func18, Try.ntmps18
 go_wp2_with (first | ((with_reducible refine gate_dst (N := 4) rfl ?_); refine box_event ?hg (N := 4) ?hd (cs := #[.int .i64 0, .int .i64 0]) (t := 25) ?hr ?_; (case hd => rfl); (case hg => rfl); (case hr => first | (go_simp; done) | (go_simp; rfl)); intro gb102 hg w3 hbox hb; have BK102 := A_ (hbox); have GW102 := A_ ((by rw [hg]; exact (below_size q0_) : w.heap.size ≤ gb102)); have GE102 := A_ ((by rw [hg]; exact (below_size q0_) : w.heap.size ≤ gb102)); replace HB := A_ (below_step q0_ hb); clear hb hbox hg))
 go_loopg [6] k (fun kq v6 w' => ∃ (x6_1 : Int) (x103000_1 : Int) (x103001_1 : Int), v6 = .int .i64 x6_1 ∧ Aside0 (spec_TableOfWeights.l0 kq l0 a1 x6_1 = some (r1, r2, r3)) ∧ Aside0 (kq ≤ k) ∧ Aside0 (w'.heap[gb102]? = some (.cells #[.int .i64 x103000_1, .int .i64 x103001_1] 25 (0, 0))) ∧ Aside0 (Below w.heap.size w w'))
 case atStart => exact ⟨(0), (0), (0), q1_, H', ⟨Nat.le_refl _⟩, ⟨M.Lb BK102⟩, ⟨q0_⟩⟩
 case round =>
  clear H'; (try clear c1); (try clear p2); obtain ⟨x6_1, x103000_1, x103001_1, rfl, HA, HK1, BK102, HB⟩ := hrel
  cases gk with
  | zero => exact absurd HA.out (by simp [spec_TableOfWeights.l0])
  | succ k1 =>
   have H := HA.out
   clear HA
   simp only [spec_TableOfWeights.l0] at H
   by_cases c4 : x6_1 < (l0.length : Int)
   ·rw [if_pos c4] at H
    have c4b0 : decide (x6_1 < (l0.length : Int)) = true := decide_eq_true c4
    clear c4
    by_cases c5 : 0 ≤ x6_1
    ·rw [if_pos c5] at H
     have c5b0 : decide (0 ≤ x6_1) = true := decide_eq_true c5
     clear c5; replace H := Option.bind_eq_some_iff.mp H; obtain ⟨t104, A60, H⟩ := H; (try dsimp only at H); have A6 := A_ A60; clear A60
     by_cases c7 : t104 = true
     ·subst c7
      have H1 : (spec_TableOfWeights.l0 k1 l0 a1 (wrap64 (x6_1 + 1))) = some (r1, r2, r3) := by rw [if_pos rfl] at H; exact H
      clear H; have H := H1; clear H1
      have H' := A_ H
      clear H
      have p103 : 0 ≤ (x6_1 : Int) := of_decide_eq_true q5_
      have q103 : x6_1 < (l0.length : Int) := of_decide_eq_true q5_
      obtain ⟨ad103, e103, hx103_0⟩ := Kd.at_int HR0.out x6_1 p103 q103
      cases e103
      replace hx103_0 := (HB.out.cell (World.block_lt_of_cell? w _ hx103_0)).trans hx103_0
      replace p103 := eq_true p103
      replace q103 := eq_true q103
      go_wp2_with (first | ((with_reducible refine gate_callee (f := 49) rfl ?_); refine goesL_ (some 19) rfl rfl Try.func49 kr_ rfl #[.int .i64 (rd l0 x6_1), .int .i64 (-100), .int .i64 100] rfl q2_ ?_; (with_reducible refine (spec_l1In.calls (rd l0 x6_1) (-100) 100 true _ A6.out).mono ?_); rintro e w' ⟨rfl, ⟨nd, rfl⟩⟩; refine ⟨_, rfl, ?_⟩))
      go_roundg k1
      case measure => have := HK1.out; omega
      case rel => exact ⟨(wrap64 (x6_1 + 1)), (x103000_1), (x103001_1), q1_, H', ⟨by have := HK1.out; omega⟩, ⟨M.Lb BK102⟩, ⟨q0_⟩⟩
     ·replace c7 := Bool.eq_false_iff.mpr c7
      subst c7
      have H1 : (some (0, 0, false)) = some (r1, r2, r3) := by rw [if_neg (show ¬ (false = true) by decide)] at H; exact H
      clear H; have H := H1; clear H1
      simp only [Option.some.injEq, Prod.mk.injEq] at H
      obtain ⟨rfl, rfl, rfl⟩ := H
      have p103 : 0 ≤ (x6_1 : Int) := of_decide_eq_true q5_
      have q103 : x6_1 < (l0.length : Int) := of_decide_eq_true q5_
      obtain ⟨ad103, e103, hx103_0⟩ := Kd.at_int HR0.out x6_1 p103 q103
      cases e103
      replace hx103_0 := (HB.out.cell (World.block_lt_of_cell? w _ hx103_0)).trans hx103_0
      replace p103 := eq_true p103
      replace q103 := eq_true q103
      go_wp2_with (first | ((with_reducible refine gate_callee (f := 49) rfl ?_); refine goesL_ (some 19) rfl rfl Try.func49 kr_ rfl #[.int .i64 (rd l0 x6_1), .int .i64 (-100), .int .i64 100] rfl q2_ ?_; (with_reducible refine (spec_l1In.calls (rd l0 x6_1) (-100) 100 false _ A6.out).mono ?_); rintro e w' ⟨rfl, ⟨nd, rfl⟩⟩; refine ⟨_, rfl, ?_⟩; (try (rw [drewN_self wr]; generalize hq_ : World.drewN wr _ = wr; have n0_ : Aside0 (wr.heap[gb102]? = some (.cells #[.int .i64 x103000_1, .int .i64 x103001_1] 25 (0, 0))) := ⟨by rw [← hq_]; exact (M.Lb BK102)⟩; have n1_ : Aside0 (Below w.heap.size w wr) := ⟨by rw [← hq_]; exact q0_⟩; clear BK102 HB hq_; have BK102 := n0_; have HB := n1_; clear n0_ n1_)); have hcz8_0 := c20_ BK102; have hcz8_1 := c21_ BK102; have hfz8_0 := blk_frozen BK102.out 0; have hfz8_1 := blk_frozen BK102.out 1))
      refine bodyPost_ret (results_ct rfl _ _ gb102 25 #[.int .i64 0, .int .i64 0] (0, 0) _ rfl (by (with_reducible repeat (first | refine blk_drewN ?_ _ | refine blk_drew ?_ | refine blk_alloc ?_ _)); refine blk_put (cs := #[.int .i64 0, .int .i64 x103001_1]) ?_ 1 _ rfl; (with_reducible repeat (first | refine blk_drewN ?_ _ | refine blk_drew ?_ | refine blk_alloc ?_ _)); refine blk_put (cs := #[.int .i64 x103000_1, .int .i64 x103001_1]) ?_ 0 _ rfl; (with_reducible repeat (first | refine blk_drewN ?_ _ | refine blk_drew ?_ | refine blk_alloc ?_ _)); exact BK102.out) Try.underlying25 rfl kr_) rfl ?_
      exact ⟨q7_, q0_⟩
    ·rw [if_neg c5] at H
     exact absurd H (by simp)
   ·rw [if_neg c4] at H
    have c4b0 : decide (x6_1 < (l0.length : Int)) = false := decide_eq_false c4
    clear c4; have HC9 := A_ H; clear H
    go_upto_region 6 with (fail)
    go_cut [29] (fun v29 wc => ∃ (kq : Nat) (x29_8 : Bool), v29 = .bool x29_8 ∧ Aside0 (spec_TableOfWeights.j1 kq l0 a1 x29_8 = some (r1, r2, r3)) ∧ Aside0 (kq ≤ k1) ∧ Aside0 (wc.heap[gb102]? = some (.cells #[.int .i64 x103000_1, .int .i64 x103001_1] 25 (0, 0))) ∧ Aside0 (Below w.heap.size w wc))
    case first =>
     have H := HC9.out
     clear HC9
     by_cases c10 : (l0.length : Int) > 5
     ·rw [if_pos c10] at H
      have c10b0 : decide (5 < (l0.length : Int)) = true := decide_eq_true c10
      have c10b1 : decide (5 < l0.length) = true := decide_eq_true (by omega)
      clear c10
      (first | rw [c10b0] | (simp only [i64_w, i32_w]; rw [c10b0]) | skip)
      have H' := A_ H
      clear H
      go_wp2
      go_meet
      case rel => exact ⟨_, (true), q1_, H', ⟨by have := HK1.out; first | omega | exact Nat.le_refl _⟩, ⟨M.Lb BK102⟩, ⟨q0_⟩⟩
     ·rw [if_neg c10] at H
      have c10b0 : decide (5 < (l0.length : Int)) = false := decide_eq_false c10
      have c10b1 : decide (5 < l0.length) = false := decide_eq_false (by omega)
      clear c10
      (first | rw [c10b0] | (simp only [i64_w, i32_w]; rw [c10b0]) | skip)
      replace H := Option.bind_eq_some_iff.mp H; obtain ⟨t105, A110, H⟩ := H
      replace H : (spec_TableOfWeights.j1 k1 l0 a1 (!t105)) = some (r1, r2, r3) := H
      have A11 := A_ A110; clear A110
      have H' := A_ H
      clear H
      go_wp2_with (first | (go_at_call 49; (with_reducible refine (spec_l1In.calls a1 (-1000) 1000 t105 _ A11.out).mono ?_); rintro e w' ⟨rfl, ⟨nd, rfl⟩⟩))
      go_meet
      case rel => exact ⟨_, (!t105), q1_, H', ⟨by have := HK1.out; first | omega | exact Nat.le_refl _⟩, ⟨M.Lb BK102⟩, ⟨q0_⟩⟩
    case rest =>
     clear HC9; (try clear c1); (try clear p1); (try clear q1); (try clear hx1); (try clear p2); (try clear c4); (try clear c4b0); (try clear c5); (try clear c5b0); (try clear p6); (try clear c7); (try clear c10); (try clear c10b0); (try clear c10b1); (try clear p10); (try clear q10); (try clear hx10); (try clear hcz8_0); (try clear hcz8_1); (try clear hfz8_0); (try clear hfz8_1); (try clear hx103_0); (try clear p103); (try clear p2); (try clear q103); obtain ⟨kq, x29_8, rfl, HA, HJ8, BK102, HB⟩ := hcut
     cases kq with
     | zero => exact absurd HA.out (by simp [spec_TableOfWeights.j1])
     | succ kj8 =>
      have H := HA.out
      clear HA
      simp only [spec_TableOfWeights.j1] at H
      by_cases c12 : x29_8 = true
      ·subst c12
       have H1 : (some (0, 0, false)) = some (r1, r2, r3) := by rw [if_pos rfl] at H; exact H
       clear H; have H := H1; clear H1
       simp only [Option.some.injEq, Prod.mk.injEq] at H
       obtain ⟨rfl, rfl, rfl⟩ := H
       have hcz13_0 := c20_ BK102
       have hcz13_1 := c21_ BK102
       have hfz13_0 := blk_frozen BK102.out 0
       have hfz13_1 := blk_frozen BK102.out 1
       go_wp2
       refine bodyPost_ret (results_ct rfl _ _ gb102 25 #[.int .i64 0, .int .i64 0] (0, 0) _ rfl (by (with_reducible repeat (first | refine blk_drewN ?_ _ | refine blk_drew ?_ | refine blk_alloc ?_ _)); refine blk_put (cs := #[.int .i64 0, .int .i64 x103001_1]) ?_ 1 _ rfl; (with_reducible repeat (first | refine blk_drewN ?_ _ | refine blk_drew ?_ | refine blk_alloc ?_ _)); refine blk_put (cs := #[.int .i64 x103000_1, .int .i64 x103001_1]) ?_ 0 _ rfl; (with_reducible repeat (first | refine blk_drewN ?_ _ | refine blk_drew ?_ | refine blk_alloc ?_ _)); exact BK102.out) Try.underlying25 rfl kr_) rfl ?_
       exact ⟨q7_, q0_⟩
      ·replace c12 := Bool.eq_false_iff.mpr c12
       subst c12
       have H1 : (spec_TableOfWeights.l1 kj8 l0 a1 0 0) = some (r1, r2, r3) := by rw [if_neg (show ¬ (false = true) by decide)] at H; exact H
       clear H; have H := H1; clear H1
       have H' := A_ H
       clear H
       go_wp2
       go_loopg [7, 8] kj8 (fun kq v7 v8 w' => ∃ (x7_3 : Int) (x8_3 : Int), v7 = .int .i64 x7_3 ∧ v8 = .int .i64 x8_3 ∧ Aside0 (spec_TableOfWeights.l1 kq l0 a1 x7_3 x8_3 = some (r1, r2, r3)) ∧ Aside0 (kq ≤ kj8) ∧ Aside0 (w'.heap[gb102]? = some (.cells #[.int .i64 x103000_1, .int .i64 x103001_1] 25 (0, 0))) ∧ Aside0 (Below w.heap.size w w'))
       case atStart => exact ⟨(0), (0), q1_, q1_, H', ⟨Nat.le_refl _⟩, ⟨M.Lb BK102⟩, ⟨q0_⟩⟩
       case round =>
        clear H'; (try clear c1); (try clear p1); (try clear q1); (try clear hx1); (try clear p2); (try clear c4); (try clear c4b0); (try clear c5); (try clear c5b0); (try clear p6); (try clear c7); (try clear c10); (try clear c10b0); (try clear c10b1); (try clear p10); (try clear q10); (try clear hx10); (try clear c12); (try clear hcz13_0); (try clear hcz13_1); (try clear hcz8_0); (try clear hcz8_1); (try clear hfz13_0); (try clear hfz13_1); (try clear hfz8_0); (try clear hfz8_1); (try clear hx103_0); (try clear p1); (try clear p10); (try clear p103); (try clear p2); (try clear p6); (try clear q1)
        (try clear q10); (try clear q103); obtain ⟨x7_3, x8_3, rfl, rfl, HA, HK3, BK102, HB⟩ := hrel
        cases gk with
        | zero => exact absurd HA.out (by simp [spec_TableOfWeights.l1])
        | succ k3 =>
         have H := HA.out
         clear HA
         simp only [spec_TableOfWeights.l1] at H
         obtain ⟨ji14, hji14⟩ : ∃ j_ : Int, (shl .i64 1 (l0.length : Int)) = j_ := ⟨_, rfl⟩
         replace H : (if x8_3 < (ji14) then ((spec_l16Sum.f k3 l0 x8_3).bind fun t106 => (if t106 ≥ a1 then (if 0 ≤ x8_3 then (spec_TableOfWeights.l1 k3 l0 a1 (Go.bits .or .i64 x7_3 (shl .i64 1 x8_3)) (wrap64 (x8_3 + 1))) else (none)) else (spec_TableOfWeights.l1 k3 l0 a1 x7_3 (wrap64 (x8_3 + 1))))) else (some ((l0.length : Int), x7_3, true))) = some (r1, r2, r3) := by first | (rw [hji14] at H; exact H) | (simp only [hji14] at H ⊢; exact H)
         have hji14_ : (IntKind.i64.wrap (1 * 2 ^ min (l0.length : Int).toNat 64)) = ji14 := hji14
         have hji14z : (l0.length : Int) ≤ 64 → (IntKind.i64.wrap (1 * 2 ^ (l0.length : Int).toNat)) = ji14 := shl_small hji14
         have hji14p : (IntKind.i64.wrap (1 * 2 ^ min l0.length 64)) = ji14 := hji14_
         have hji14q : (l0.length : Int) ≤ 64 → (IntKind.i64.wrap (1 * 2 ^ l0.length)) = ji14 := hji14z
         have hji14r : (IntKind.i64.wrap (2 ^ min l0.length 64)) = ji14 := by have h_ := hji14p; rw [Int.one_mul] at h_; exact h_
         have hji14s : (l0.length : Int) ≤ 64 → (IntKind.i64.wrap (2 ^ l0.length)) = ji14 := fun hle_ => by have h_ := hji14q hle_; rw [Int.one_mul] at h_; exact h_
         have hji14u : (IntKind.i64.wrap (2 ^ min (l0.length : Int).toNat 64)) = ji14 := by have h_ := hji14_; rw [Int.one_mul] at h_; exact h_
         have hji14v : (l0.length : Int) ≤ 64 → (IntKind.i64.wrap (2 ^ (l0.length : Int).toNat)) = ji14 := fun hle_ => by have h_ := hji14z hle_; rw [Int.one_mul] at h_; exact h_
         have hji14y : (wrap64 (1 * 2 ^ min (l0.length : Int).toNat 64)) = ji14 := (i64_w _).symm.trans hji14_
         have hji14x : (l0.length : Int) ≤ 64 → (wrap64 (1 * 2 ^ (l0.length : Int).toNat)) = ji14 := fun h_ => (i64_w _).symm.trans (hji14z h_)
         by_cases c15 : x8_3 < (ji14)
         ·rw [if_pos c15] at H
          have c15b0 : decide (x8_3 < (ji14)) = true := decide_eq_true c15
          clear c15; replace H := Option.bind_eq_some_iff.mp H; obtain ⟨t106, A160, H⟩ := H; (try dsimp only at H); have A16 := A_ A160; clear A160
          by_cases c17 : t106 ≥ a1
          ·rw [if_pos c17] at H
           have c17b0 : decide (a1 ≤ t106) = true := decide_eq_true c17
           clear c17
           by_cases c18 : 0 ≤ x8_3
           ·rw [if_pos c18] at H
            have c18b0 := eq_true c18
            have c18b1 : decide (0 ≤ x8_3) = true := decide_eq_true c18
            clear c18
            obtain ⟨ji19, hji19⟩ : ∃ j_ : Int, (shl .i64 1 x8_3) = j_ := ⟨_, rfl⟩
            replace H : (spec_TableOfWeights.l1 k3 l0 a1 (Go.bits .or .i64 x7_3 (ji19)) (wrap64 (x8_3 + 1))) = some (r1, r2, r3) := by first | (rw [hji19] at H; exact H) | (simp only [hji19] at H ⊢; exact H)
            (try rw [hji19] at A16)
            have hji19_ : (IntKind.i64.wrap (1 * 2 ^ min x8_3.toNat 64)) = ji19 := hji19
            have hji19z : x8_3 ≤ 64 → (IntKind.i64.wrap (1 * 2 ^ x8_3.toNat)) = ji19 := shl_small hji19
            have hji19u : (IntKind.i64.wrap (2 ^ min x8_3.toNat 64)) = ji19 := by have h_ := hji19_; rw [Int.one_mul] at h_; exact h_
            have hji19v : x8_3 ≤ 64 → (IntKind.i64.wrap (2 ^ x8_3.toNat)) = ji19 := fun hle_ => by have h_ := hji19z hle_; rw [Int.one_mul] at h_; exact h_
            have hji19y : (wrap64 (1 * 2 ^ min x8_3.toNat 64)) = ji19 := (i64_w _).symm.trans hji19_
            have hji19x : x8_3 ≤ 64 → (wrap64 (1 * 2 ^ x8_3.toNat)) = ji19 := fun h_ => (i64_w _).symm.trans (hji19z h_)
            have H' := A_ H
            clear H
            go_wp2_with (first | ((with_reducible refine gate_callee (f := 53) rfl ?_); refine goesL_ (some 40) rfl rfl Try.func53 kr_ rfl #[.slice A0 l0.length c0, .int .i64 x8_3] rfl q2_ ?_; (with_reducible refine (spec_l16Sum.calls k3 _ _ l0 x8_3 t106 _ ?side1 ?side2 A16.out).mono ?_); (case side1 => exact q14_); (case side2 => exact HC0.out); rintro e w' ⟨rfl, ⟨nd, rfl⟩⟩; refine ⟨_, rfl, ?_⟩))
            go_roundg k3
            case measure => have := HK1.out; have := HJ8.out; have := HK3.out; omega
            case rel => exact ⟨(Go.bits .or .i64 x7_3 (ji19)), (wrap64 (x8_3 + 1)), (by first | rfl | (simp; done) | (simp only [← hji19] <;> (first | rfl | simp)) | (simp [*]; done)), q1_, H', ⟨by have := HK1.out; have := HJ8.out; have := HK3.out; omega⟩, ⟨M.Lb BK102⟩, ⟨q0_⟩⟩
           ·rw [if_neg c18] at H
            exact absurd H (by simp)
          ·rw [if_neg c17] at H
           have c17b0 : decide (a1 ≤ t106) = false := decide_eq_false c17
           clear c17
           have H' := A_ H
           clear H
           go_wp2_with (first | ((with_reducible refine gate_callee (f := 53) rfl ?_); refine goesL_ (some 40) rfl rfl Try.func53 kr_ rfl #[.slice A0 l0.length c0, .int .i64 x8_3] rfl q2_ ?_; (with_reducible refine (spec_l16Sum.calls k3 _ _ l0 x8_3 t106 _ ?side1 ?side2 A16.out).mono ?_); (case side1 => exact q14_); (case side2 => exact HC0.out); rintro e w' ⟨rfl, ⟨nd, rfl⟩⟩; refine ⟨_, rfl, ?_⟩))
           go_roundg k3
           case measure => have := HK1.out; have := HJ8.out; have := HK3.out; omega
           case rel => exact ⟨(x7_3), (wrap64 (x8_3 + 1)), q1_, q1_, H', ⟨by have := HK1.out; have := HJ8.out; have := HK3.out; omega⟩, ⟨M.Lb BK102⟩, ⟨q0_⟩⟩
         ·rw [if_neg c15] at H
          have c15b0 : decide (x8_3 < (ji14)) = false := decide_eq_false c15
          clear c15
          simp only [Option.some.injEq, Prod.mk.injEq] at H
          obtain ⟨rfl, rfl, rfl⟩ := H
          have hcz20_0 := c20_ BK102
          have hcz20_1 := c21_ BK102
          have hfz20_0 := blk_frozen BK102.out 0
          have hfz20_1 := blk_frozen BK102.out 1
          go_wp2
          refine bodyPost_ret (results_ct rfl _ _ gb102 25 #[.int .i64 (l0.length : Int), .int .i64 x7_3] (0, 0) _ rfl (by (with_reducible repeat (first | refine blk_drewN ?_ _ | refine blk_drew ?_ | refine blk_alloc ?_ _)); refine blk_put (cs := #[.int .i64 (l0.length : Int), .int .i64 x103001_1]) ?_ 1 _ rfl; (with_reducible repeat (first | refine blk_drewN ?_ _ | refine blk_drew ?_ | refine blk_alloc ?_ _)); refine blk_put (cs := #[.int .i64 x103000_1, .int .i64 x103001_1]) ?_ 0 _ rfl; (with_reducible repeat (first | refine blk_drewN ?_ _ | refine blk_drew ?_ | refine blk_alloc ?_ _)); exact BK102.out) Try.underlying25 rfl kr_) rfl ?_
          exact ⟨by first | rfl | (simp [errW_none, errW_some] <;> rfl) | (simp only [← hji14]; first | rfl | (simp [errW_none, errW_some] <;> rfl)) | (simp [*, errW_none, errW_some] <;> rfl), q0_⟩
def IsS72 (w0 W : World) (g : Nat) (f0 : List Int) (f1 : Int) (f2 : Int) : Prop := ∃ A0 c0, W.heap[g]? = some (.cells #[.slice A0 f0.length c0, .int .i64 f1, .int .i64 f2] 72 (0, 0)) ∧ w0.heap.size ≤ g ∧ Kd.C (Kd.int .u8) w0 A0 f0.length f0
theorem IsS72.grown {w0 W : World} {g : Nat} {f0 : List Int} {f1 : Int} {f2 : Int} {W1 : World} {row : Option Nat} (h : IsS72 w0 W g f0 f1 f2) (hw : W.grownBy W1 row) (hne : some g ≠ row) : IsS72 w0 W1 g f0 f1 f2 := by
 obtain ⟨A0, c0, hb, hg, hr0⟩ := h
 exact ⟨A0, c0, blk_grown hb hw hne, hg, hr0⟩
theorem IsS72.kept {w0 W : World} {g : Nat} {f0 : List Int} {f1 : Int} {f2 : Int} {W1 : World} {S : Nat → Prop} (h : IsS72 w0 W g f0 f1 f2) (hk : Kept W W1 S) (hne : ¬ S g) : IsS72 w0 W1 g f0 f1 f2 := by
 obtain ⟨A0, c0, hb, hg, hr0⟩ := h
 exact ⟨A0, c0, blk_kept hb hk hne, hg, hr0⟩
theorem IsS72.below {w0 W : World} {g : Nat} {f0 : List Int} {f1 : Int} {f2 : Int} {W1 : World} (h : IsS72 w0 W g f0 f1 f2) (hw : Below W.heap.size W W1) : IsS72 w0 W1 g f0 f1 f2 := h.grown (grown_of_below hw none) (by simp)
theorem IsS72.alloc {w0 W : World} {g : Nat} {f0 : List Int} {f1 : Int} {f2 : Int} (h : IsS72 w0 W g f0 f1 f2) (o : Obj) : IsS72 w0 (W.alloc o) g f0 f1 f2 := h.below (below_alloc (Below.refl _ _) o)
theorem IsS72.drewN {w0 W : World} {g : Nat} {f0 : List Int} {f1 : Int} {f2 : Int} (h : IsS72 w0 W g f0 f1 f2) (m : Nat) : IsS72 w0 (W.drewN m) g f0 f1 f2 := h
theorem IsS72.drew {w0 W : World} {g : Nat} {f0 : List Int} {f1 : Int} {f2 : Int} (h : IsS72 w0 W g f0 f1 f2) : IsS72 w0 W.drew g f0 f1 f2 := h
theorem IsS72.at_ {w0 W : World} {g : Nat} {f0 : List Int} {f1 : Int} {f2 : Int} {w' : World} {m : Nat} (hq : W.drewN m = w') (h : IsS72 w0 W g f0 f1 f2) : IsS72 w0 w' g f0 f1 f2 := by subst hq; exact IsS72.drewN h m
theorem IsS72.apart {w0 W : World} {g : Nat} {f0 : List Int} {f1 : Int} {f2 : Int} {α : Type} {d : Kd α} {e : Nat} {base : Nat} {ok : Nat → Prop} {v : Value} {xs : List α} (h : IsS72 w0 W g f0 f1 f2) (ho : d.R e W base ok v xs) (ht : ∀ q, q ∈ e :: d.E → q ≠ 72) : d.R e W base (fun k => ok k ∧ k ≠ g) v xs := by
 obtain ⟨A0, c0, hb, hg, hr0⟩ := h
 exact Kd.R_types ho hb ht
theorem IsS72.own_ne {w0 W : World} {g : Nat} {f0 : List Int} {f1 : Int} {f2 : Int} {α : Type} {d : Kd α} {e : Nat} {base : Nat} {ok : Nat → Prop} {v : Value} {xs : List α} (h : IsS72 w0 W g f0 f1 f2) (ho : d.R e W base ok v xs) (ht : e ≠ 72) : some g ≠ v.ownBlock := by
 obtain ⟨A0, c0, hb, hg, hr0⟩ := h
 exact Kd.R_ne ho hb ht
theorem IsS72.lt {w0 W : World} {g : Nat} {f0 : List Int} {f1 : Int} {f2 : Int} (h : IsS72 w0 W g f0 f1 f2) : g < W.heap.size := by
 obtain ⟨A0, c0, hb, hg, hr0⟩ := h
 exact blk_lt hb
theorem IsS72.ge {w0 W : World} {g : Nat} {f0 : List Int} {f1 : Int} {f2 : Int} (h : IsS72 w0 W g f0 f1 f2) : w0.heap.size ≤ g := by
 obtain ⟨A0, c0, hb, hg, hr0⟩ := h
 exact hg
theorem IsS72.ne_blk {w0 W : World} {g : Nat} {f0 : List Int} {f1 : Int} {f2 : Int} {a : Nat} {cs : Array Value} {t : TypeId} {fr : Nat × Nat} (h : IsS72 w0 W g f0 f1 f2) (hb2 : W.heap[a]? = some (.cells cs t fr)) (ht : t ≠ 72) : g ≠ a := by
 obtain ⟨A0, c0, hb, hg, hr0⟩ := h; rintro rfl
 rw [hb] at hb2
 injection hb2 with hb2
 injection hb2 with _ ht2
 exact ht ht2.symm
theorem IsS72.far {w0 W : World} {g : Nat} {f0 : List Int} {f1 : Int} {f2 : Int} {p : Addr} (h : IsS72 w0 W g f0 f1 f2) (hne : g ≠ p.block) (u : Value) : IsS72 w0 (W.setCell p u) g f0 f1 f2 := by
 obtain ⟨A0, c0, hb, hg, hr0⟩ := h
 exact ⟨A0, c0, blk_far hb hne u, hg, hr0⟩
theorem cellS72_0 {W : World} {g : Nat} {A0 : Option Addr} {c0 : Nat} {f0 : List Int} {f1 : Int} {f2 : Int} (h : W.heap[g]? = some (.cells #[.slice A0 f0.length c0, .int .i64 f1, .int .i64 f2] 72 (0, 0))) : W.cell? ⟨g, 0, none⟩ = some (.slice A0 f0.length c0) := (blk_cell h 0).trans rfl
theorem cellS72_1 {W : World} {g : Nat} {A0 : Option Addr} {c0 : Nat} {f0 : List Int} {f1 : Int} {f2 : Int} (h : W.heap[g]? = some (.cells #[.slice A0 f0.length c0, .int .i64 f1, .int .i64 f2] 72 (0, 0))) : W.cell? ⟨g, 1, none⟩ = some (.int .i64 f1) := (blk_cell h 1).trans rfl
theorem IsS72.set_1 {w0 W : World} {g : Nat} {f0 : List Int} {f1 : Int} {f2 : Int} (h : IsS72 w0 W g f0 f1 f2) (x : Int) : IsS72 w0 (W.setCell ⟨g, 1, none⟩ (.int .i64 x)) g f0 x f2 := by
 obtain ⟨A0, c0, hb, hg, hr0⟩ := h
 exact ⟨A0, c0, by simpa using blk_set hb 1 (.int .i64 x), hg, hr0⟩
theorem cellS72_2 {W : World} {g : Nat} {A0 : Option Addr} {c0 : Nat} {f0 : List Int} {f1 : Int} {f2 : Int} (h : W.heap[g]? = some (.cells #[.slice A0 f0.length c0, .int .i64 f1, .int .i64 f2] 72 (0, 0))) : W.cell? ⟨g, 2, none⟩ = some (.int .i64 f2) := (blk_cell h 2).trans rfl
theorem IsS72.set_2 {w0 W : World} {g : Nat} {f0 : List Int} {f1 : Int} {f2 : Int} (h : IsS72 w0 W g f0 f1 f2) (x : Int) : IsS72 w0 (W.setCell ⟨g, 2, none⟩ (.int .i64 x)) g f0 f1 x := by
 obtain ⟨A0, c0, hb, hg, hr0⟩ := h
 exact ⟨A0, c0, by simpa using blk_set hb 2 (.int .i64 x), hg, hr0⟩
def spec_l1Byte.f (s0_0 : List Int) (s0_1 : Int) (s0_2 : Int) : Option (Int × Int × Int) := if s0_1 < (s0_0.length : Int) then (if 0 ≤ s0_1 then (some (Go.bits .and .i64 (wrap64 ((Go.bits .and .i64 (Go.bits .xor .i64 ((wrap64 ((wrap64 (s0_2 * 6364136223846793005)) + 1442695040888963407)) / 8589934592) ((wrap64 ((wrap64 (s0_2 * 6364136223846793005)) + 1442695040888963407)) / 35184372088832)) 255) + (wrap64 (rd s0_0 s0_1)))) 255, wrap64 (s0_1 + 1), wrap64 ((wrap64 (s0_2 * 6364136223846793005)) + 1442695040888963407))) else (none)) else (some (Go.bits .and .i64 (Go.bits .xor .i64 ((wrap64 ((wrap64 (s0_2 * 6364136223846793005)) + 1442695040888963407)) / 8589934592) ((wrap64 ((wrap64 (s0_2 * 6364136223846793005)) + 1442695040888963407)) / 35184372088832)) 255, s0_1, wrap64 ((wrap64 (s0_2 * 6364136223846793005)) + 1442695040888963407)))
theorem spec_l1Byte.calls (g : Nat) (s0_0 : List Int) (s0_1 : Int) (s0_2 : Int) (r1 : Int) (r2 : Int) (r3 : Int) (w0 w : World) (hI : IsS72 w0 w g s0_0 s0_1 s0_2) (hB : Below w0.heap.size w0 w) (h : spec_l1Byte.f s0_0 s0_1 s0_2 = some (r1, r2, r3)) :
  Calls Try.prog 69 #[.pointer (some ⟨g, 0, none⟩)] w fun e w' => e = .returned (.int .i64 r1) ∧ IsS72 w0 w' g s0_0 r2 r3 ∧ Below w0.heap.size w0 w' ∧ KeepBut w w' g none := by
 have HI0 := A_ hI
 have HK := A_ (KeepBut.refl w g none)
 have HL := A_ hB.size
 clear hI
 have HW0 := A_ hB.size
 have HB := A_ hB; clear hB
 have H : (if s0_1 < (s0_0.length : Int) then (if 0 ≤ s0_1 then (some (Go.bits .and .i64 (wrap64 ((Go.bits .and .i64 (Go.bits .xor .i64 ((wrap64 ((wrap64 (s0_2 * 6364136223846793005)) + 1442695040888963407)) / 8589934592) ((wrap64 ((wrap64 (s0_2 * 6364136223846793005)) + 1442695040888963407)) / 35184372088832)) 255) + (wrap64 (rd s0_0 s0_1)))) 255, wrap64 (s0_1 + 1), wrap64 ((wrap64 (s0_2 * 6364136223846793005)) + 1442695040888963407))) else (none)) else (some (Go.bits .and .i64 (Go.bits .xor .i64 ((wrap64 ((wrap64 (s0_2 * 6364136223846793005)) + 1442695040888963407)) / 8589934592) ((wrap64 ((wrap64 (s0_2 * 6364136223846793005)) + 1442695040888963407)) / 35184372088832)) 255, s0_1, wrap64 ((wrap64 (s0_2 * 6364136223846793005)) + 1442695040888963407)))) = some (r1, r2, r3) := h
 clear h
 by_cases c2 : s0_1 < (s0_0.length : Int)
 ·rw [if_pos c2] at H
  have c2b0 : decide (s0_1 < (s0_0.length : Int)) = true := decide_eq_true c2
  clear c2
  by_cases c3 : 0 ≤ s0_1
  ·rw [if_pos c3] at H
   have c3b0 : decide (0 ≤ s0_1) = true := decide_eq_true c3
   clear c3
   simp only [Option.some.injEq, Prod.mk.injEq] at H
   obtain ⟨rfl, rfl, rfl⟩ := H; obtain ⟨ASz4_0, cSz4_0, HGz4, hgz4, HSz4_0⟩ := HI0.out
   have hcz4_0 := cellS72_0 HGz4
   have hcz4_1 := cellS72_1 HGz4
   have hcz4_2 := cellS72_2 HGz4
   have hfz4_1 := blk_frozen HGz4 1
   have hfz4_2 := blk_frozen HGz4 2
   clear HGz4 hgz4
   have p107 : 0 ≤ (s0_1 : Int) := of_decide_eq_true q5_
   have q107 : s0_1 < (s0_0.length : Int) := of_decide_eq_true q5_
   obtain ⟨ad107, e107, hx107_0⟩ := Kd.at_int HSz4_0 s0_1 p107 q107
   cases e107
   have hn107_0 : ad107.block ≠ g := Nat.ne_of_lt (Nat.lt_of_lt_of_le (by have := World.block_lt_of_cell? _ _ hx107_0; first | rwa [add_block] at this | exact this) (IsS72.ge HI0.out))
   replace hx107_0 := pw_cell_below HB.out hx107_0
   replace hx107_0 := (cell_far (p := ⟨g, 2, none⟩) (by first | (rw [add_block]; exact hn107_0) | (show (Addr.add _ _).block ≠ _; rw [add_block]; exact hn107_0) | exact hn107_0) (.int .i64 (wrap64 ((wrap64 (s0_2 * 6364136223846793005)) + 1442695040888963407)))).trans hx107_0
   (try have hy107_0 := fun (n_ : Nat) => (show (((w.drewN n_).setCell ⟨g, 2, none⟩ (.int .i64 (wrap64 ((wrap64 (s0_2 * 6364136223846793005)) + 1442695040888963407))))).cell? _ = some _ from hx107_0))
   clear hn107_0
   replace p107 := eq_true p107
   replace q107 := eq_true q107
   go_enter Try.func69, Try.ntmps69
   go_wp2
   repeat (go_quiet (fail); try go_wp2)
   go_ret
   exact ⟨q7_, q8_, q3_, q4_⟩
  ·rw [if_neg c3] at H
   exact absurd H (by simp)
 ·rw [if_neg c2] at H
  have c2b0 : decide (s0_1 < (s0_0.length : Int)) = false := decide_eq_false c2
  clear c2
  simp only [Option.some.injEq, Prod.mk.injEq] at H
  obtain ⟨rfl, rfl, rfl⟩ := H; obtain ⟨ASz5_0, cSz5_0, HGz5, hgz5, HSz5_0⟩ := HI0.out
  have hcz5_0 := cellS72_0 HGz5
  have hcz5_1 := cellS72_1 HGz5
  have hcz5_2 := cellS72_2 HGz5
  have hfz5_1 := blk_frozen HGz5 1
  have hfz5_2 := blk_frozen HGz5 2
  clear HGz5 hgz5
  go_enter Try.func69, Try.ntmps69
  go_wp2
  repeat (go_quiet (fail); try go_wp2)
  go_ret
  exact ⟨q7_, q8_, q3_, q4_⟩
def spec_l1Below.f (s0_0 : List Int) (s0_1 : Int) (s0_2 : Int) (a1 : Int) : Option (Int × Int × Int) := if a1 ≤ 0 then (some (0, s0_1, s0_2)) else (if a1 ≤ 256 then ((spec_l1Byte.f s0_0 s0_1 s0_2).bind fun bt108 => (if a1 = 0 then (none) else (some (Int.tmod bt108.1 a1, bt108.2.1, bt108.2.2)))) else ((spec_l1Byte.f s0_0 s0_1 s0_2).bind fun bt111 => ((spec_l1Byte.f s0_0 bt111.2.1 bt111.2.2).bind fun bt114 => ((spec_l1Byte.f s0_0 bt114.2.1 bt114.2.2).bind fun bt117 => ((spec_l1Byte.f s0_0 bt117.2.1 bt117.2.2).bind fun bt120 => (if a1 = 0 then (none) else (some (Int.tmod (wrap64 ((wrap64 ((wrap64 ((wrap64 (bt111.1 * 16777216)) + (wrap64 (bt114.1 * 65536)))) + (wrap64 (bt117.1 * 256)))) + bt120.1)) a1, bt120.2.1, bt120.2.2))))))))
theorem spec_l1Below.calls (g : Nat) (s0_0 : List Int) (s0_1 : Int) (s0_2 : Int) (a1 : Int) (r1 : Int) (r2 : Int) (r3 : Int) (w0 w : World) (hI : IsS72 w0 w g s0_0 s0_1 s0_2) (hB : Below w0.heap.size w0 w) (h : spec_l1Below.f s0_0 s0_1 s0_2 a1 = some (r1, r2, r3)) :
  Calls Try.prog 50 #[.pointer (some ⟨g, 0, none⟩), .int .i64 a1] w fun e w' => e = .returned (.int .i64 r1) ∧ IsS72 w0 w' g s0_0 r2 r3 ∧ Below w0.heap.size w0 w' ∧ KeepBut w w' g none := by
 have HI0 := A_ hI
 have HK := A_ (KeepBut.refl w g none)
 have HL := A_ hB.size
 clear hI
 have HW0 := A_ hB.size
 have HB := A_ hB; clear hB
 have H : (if a1 ≤ 0 then (some (0, s0_1, s0_2)) else (if a1 ≤ 256 then ((spec_l1Byte.f s0_0 s0_1 s0_2).bind fun bt108 => (if a1 = 0 then (none) else (some (Int.tmod bt108.1 a1, bt108.2.1, bt108.2.2)))) else ((spec_l1Byte.f s0_0 s0_1 s0_2).bind fun bt111 => ((spec_l1Byte.f s0_0 bt111.2.1 bt111.2.2).bind fun bt114 => ((spec_l1Byte.f s0_0 bt114.2.1 bt114.2.2).bind fun bt117 => ((spec_l1Byte.f s0_0 bt117.2.1 bt117.2.2).bind fun bt120 => (if a1 = 0 then (none) else (some (Int.tmod (wrap64 ((wrap64 ((wrap64 ((wrap64 (bt111.1 * 16777216)) + (wrap64 (bt114.1 * 65536)))) + (wrap64 (bt117.1 * 256)))) + bt120.1)) a1, bt120.2.1, bt120.2.2))))))))) = some (r1, r2, r3) := h
 clear h
 by_cases c3 : a1 ≤ 0
 ·rw [if_pos c3] at H
  have c3b0 : decide (a1 ≤ 0) = true := decide_eq_true c3
  clear c3
  simp only [Option.some.injEq, Prod.mk.injEq] at H
  obtain ⟨rfl, rfl, rfl⟩ := H
  go_enter Try.func50, Try.ntmps50
  go_wp2
  go_ret
  exact ⟨q7_, q8_, q3_, q4_⟩
 ·rw [if_neg c3] at H
  have c3b0 : decide (a1 ≤ 0) = false := decide_eq_false c3
  clear c3
  by_cases c4 : a1 ≤ 256
  ·rw [if_pos c4] at H
   have c4b0 : decide (a1 ≤ 256) = true := decide_eq_true c4
   clear c4; replace H := Option.bind_eq_some_iff.mp H; obtain ⟨⟨t108, t109, t110⟩, A50, H⟩ := H
   replace H : (if a1 = 0 then (none) else (some (Int.tmod t108 a1, t109, t110))) = some (r1, r2, r3) := H
   have A5 := A_ A50; clear A50
   by_cases c6 : a1 = 0
   ·rw [if_pos c6] at H
    exact absurd H (by simp)
   ·rw [if_neg c6] at H
    have c6b0 : (a1 == 0) = false := beq_eq_false_iff_ne.mpr c6
    have c6b1 : (a1 != 0) = true := bne_iff_ne.mpr c6
    simp only [Option.some.injEq, Prod.mk.injEq] at H
    obtain ⟨rfl, rfl, rfl⟩ := H
    go_enter Try.func50, Try.ntmps50
    go_wp2_with (first | ((with_reducible refine gate_callee (f := 69) rfl ?_); refine goesL_ (some 14) rfl rfl Try.func69 kr_ rfl #[.pointer (some ⟨g, 0, none⟩)] rfl q2_ ?_; (with_reducible refine (spec_l1Byte.calls g s0_0 s0_1 s0_2 t108 t109 t110 w0 _ ?side1 ?side2 A5.out).mono ?_); (case side1 => exact q8_); (case side2 => exact q3_); rintro e w7 ⟨rfl, hi, hb, hk⟩; refine ⟨_, rfl, ?_⟩; replace HK := A_ (KeepBut.trans (w := w) q4_ hk (.inl rfl)); replace HB := A_ (hb); replace HI0 := A_ (hi); (try clear hb); (try clear hb2); (try clear hk); (try clear hi)))
    go_ret
    exact ⟨q7_, q8_, q3_, q4_⟩
  ·rw [if_neg c4] at H
   have c4b0 : decide (a1 ≤ 256) = false := decide_eq_false c4
   clear c4; replace H := Option.bind_eq_some_iff.mp H; obtain ⟨⟨t111, t112, t113⟩, A80, H⟩ := H; (try dsimp only at H); have A8 := A_ A80; clear A80; replace H := Option.bind_eq_some_iff.mp H; obtain ⟨⟨t114, t115, t116⟩, A90, H⟩ := H; (try dsimp only at H); have A9 := A_ A90; clear A90; replace H := Option.bind_eq_some_iff.mp H; obtain ⟨⟨t117, t118, t119⟩, A100, H⟩ := H; (try dsimp only at H); have A10 := A_ A100; clear A100; replace H := Option.bind_eq_some_iff.mp H; obtain ⟨⟨t120, t121, t122⟩, A110, H⟩ := H; (try dsimp only at H); have A11 := A_ A110; clear A110
   by_cases c12 : a1 = 0
   ·rw [if_pos c12] at H
    exact absurd H (by simp)
   ·rw [if_neg c12] at H
    have c12b0 : (a1 == 0) = false := beq_eq_false_iff_ne.mpr c12
    have c12b1 : (a1 != 0) = true := bne_iff_ne.mpr c12
    simp only [Option.some.injEq, Prod.mk.injEq] at H
    obtain ⟨rfl, rfl, rfl⟩ := H
    go_enter Try.func50, Try.ntmps50
    go_wp2_with (first | ((with_reducible refine gate_callee (f := 69) rfl ?_); refine goesL_ (some 18) rfl rfl Try.func69 kr_ rfl #[.pointer (some ⟨g, 0, none⟩)] rfl q2_ ?_; (with_reducible refine (spec_l1Byte.calls g s0_0 s0_1 s0_2 t111 t112 t113 w0 _ ?side1 ?side2 A8.out).mono ?_); (case side1 => exact q8_); (case side2 => exact q3_); rintro e w13 ⟨rfl, hi, hb, hk⟩; refine ⟨_, rfl, ?_⟩; replace HK := A_ (KeepBut.trans (w := w) q4_ hk (.inl rfl)); replace HB := A_ (hb); replace HI0 := A_ (hi); (try clear hb); (try clear hb2); (try clear hk); (try clear hi)) | ((with_reducible refine gate_callee (f := 69) rfl ?_); refine goesL_ (some 20) rfl rfl Try.func69 kr_ rfl #[.pointer (some ⟨g, 0, none⟩)] rfl q2_ ?_; (with_reducible refine (spec_l1Byte.calls g s0_0 t112 t113 t114 t115 t116 w0 _ ?side1 ?side2 A9.out).mono ?_); (case side1 => exact q8_); (case side2 => exact q3_); rintro e w14 ⟨rfl, hi, hb, hk⟩; refine ⟨_, rfl, ?_⟩; replace HK := A_ (KeepBut.trans (w := w) q4_ hk (.inl rfl)); replace HB := A_ (hb); replace HI0 := A_ (hi); (try clear hb); (try clear hb2); (try clear hk); (try clear hi)) | ((with_reducible refine gate_callee (f := 69) rfl ?_); refine goesL_ (some 22) rfl rfl Try.func69 kr_ rfl #[.pointer (some ⟨g, 0, none⟩)] rfl q2_ ?_; (with_reducible refine (spec_l1Byte.calls g s0_0 t115 t116 t117 t118 t119 w0 _ ?side1 ?side2 A10.out).mono ?_); (case side1 => exact q8_); (case side2 => exact q3_); rintro e w15 ⟨rfl, hi, hb, hk⟩; refine ⟨_, rfl, ?_⟩; replace HK := A_ (KeepBut.trans (w := w) q4_ hk (.inl rfl)); replace HB := A_ (hb); replace HI0 := A_ (hi); (try clear hb); (try clear hb2); (try clear hk); (try clear hi)) | ((with_reducible refine gate_callee (f := 69) rfl ?_); refine goesL_ (some 24) rfl rfl Try.func69 kr_ rfl #[.pointer (some ⟨g, 0, none⟩)] rfl q2_ ?_; (with_reducible refine (spec_l1Byte.calls g s0_0 t118 t119 t120 t121 t122 w0 _ ?side1 ?side2 A11.out).mono ?_); (case side1 => exact q8_); (case side2 => exact q3_); rintro e w16 ⟨rfl, hi, hb, hk⟩; refine ⟨_, rfl, ?_⟩; replace HK := A_ (KeepBut.trans (w := w) q4_ hk (.inl rfl)); replace HB := A_ (hb); replace HI0 := A_ (hi); (try clear hb); (try clear hb2); (try clear hk); (try clear hi)))
    go_ret
    exact ⟨q7_, q8_, q3_, q4_⟩
def spec_l1Once.f (s0_0 : List Int) (s0_1 : Int) (s0_2 : Int) (a1 : Int) : Option (Bool × Int × Int) := (spec_l1Below.f s0_0 s0_1 s0_2 a1).bind fun bt123 => (some ((bt123.1 == 0), bt123.2.1, bt123.2.2))
theorem spec_l1Once.calls (g : Nat) (s0_0 : List Int) (s0_1 : Int) (s0_2 : Int) (a1 : Int) (r1 : Bool) (r2 : Int) (r3 : Int) (w0 w : World) (hI : IsS72 w0 w g s0_0 s0_1 s0_2) (hB : Below w0.heap.size w0 w) (h : spec_l1Once.f s0_0 s0_1 s0_2 a1 = some (r1, r2, r3)) :
  Calls Try.prog 51 #[.pointer (some ⟨g, 0, none⟩), .int .i64 a1] w fun e w' => e = .returned (.bool r1) ∧ IsS72 w0 w' g s0_0 r2 r3 ∧ Below w0.heap.size w0 w' ∧ KeepBut w w' g none := by
 have HI0 := A_ hI
 have HK := A_ (KeepBut.refl w g none)
 have HL := A_ hB.size
 clear hI
 have HW0 := A_ hB.size
 have HB := A_ hB; clear hB
 have H : ((spec_l1Below.f s0_0 s0_1 s0_2 a1).bind fun bt123 => (some ((bt123.1 == 0), bt123.2.1, bt123.2.2))) = some (r1, r2, r3) := h
 clear h; replace H := Option.bind_eq_some_iff.mp H; obtain ⟨⟨t123, t124, t125⟩, A30, H⟩ := H
 replace H : (some ((t123 == 0), t124, t125)) = some (r1, r2, r3) := H
 have A3 := A_ A30; clear A30
 simp only [Option.some.injEq, Prod.mk.injEq] at H
 obtain ⟨rfl, rfl, rfl⟩ := H
 go_enter Try.func51, Try.ntmps51
 go_wp2_with (first | ((with_reducible refine gate_callee (f := 50) rfl ?_); refine goesL_ (some 7) rfl rfl Try.func50 kr_ rfl #[.pointer (some ⟨g, 0, none⟩), .int .i64 a1] rfl q2_ ?_; (with_reducible refine (spec_l1Below.calls g s0_0 s0_1 s0_2 a1 t123 t124 t125 w0 _ ?side1 ?side2 A3.out).mono ?_); (case side1 => exact q8_); (case side2 => exact q3_); rintro e w4 ⟨rfl, hi, hb, hk⟩; refine ⟨_, rfl, ?_⟩; replace HK := A_ (KeepBut.trans (w := w) q4_ hk (.inl rfl)); replace HB := A_ (hb); replace HI0 := A_ (hi); (try clear hb); (try clear hb2); (try clear hk); (try clear hi)))
 go_ret
 exact ⟨q7_, q8_, q3_, q4_⟩
def spec_l1PickInt.f (s0_0 : List Int) (s0_1 : Int) (s0_2 : Int) (l1 : List Int) : Option (Int × Int × Int) := (spec_l1Below.f s0_0 s0_1 s0_2 (l1.length : Int)).bind fun bt126 => (if 0 ≤ bt126.1 then (if bt126.1 < (l1.length : Int) then (some (rd l1 bt126.1, bt126.2.1, bt126.2.2)) else (none)) else (none))
theorem spec_l1PickInt.calls (g : Nat) (s0_0 : List Int) (s0_1 : Int) (s0_2 : Int) (A1 : Option Addr) (c1 : Nat) (l1 : List Int) (r1 : Int) (r2 : Int) (r3 : Int) (w0 w : World) (hI : IsS72 w0 w g s0_0 s0_1 s0_2) (hB : Below w0.heap.size w0 w) (hr1 : Kd.C (Kd.int .i64) w A1 l1.length l1) (hc1 : l1.length ≤ c1) (hf1 : ∀ ad, A1 = some ad → 0 < l1.length → ad.block ≠ g) (h : spec_l1PickInt.f s0_0 s0_1 s0_2 l1 = some (r1, r2, r3)) :
  Calls Try.prog 52 #[.pointer (some ⟨g, 0, none⟩), .slice A1 l1.length c1] w fun e w' => e = .returned (.int .i64 r1) ∧ IsS72 w0 w' g s0_0 r2 r3 ∧ Below w0.heap.size w0 w' ∧ KeepBut w w' g none := by
 have HR1 := A_ hr1; have HC1 := A_ hc1; clear hr1 hc1; have HI0 := A_ hI
 have HK := A_ (KeepBut.refl w g none)
 have HL := A_ hB.size
 clear hI
 have HW0 := A_ hB.size
 have HB := A_ hB; clear hB
 have H : ((spec_l1Below.f s0_0 s0_1 s0_2 (l1.length : Int)).bind fun bt126 => (if 0 ≤ bt126.1 then (if bt126.1 < (l1.length : Int) then (some (rd l1 bt126.1, bt126.2.1, bt126.2.2)) else (none)) else (none))) = some (r1, r2, r3) := h
 clear h; replace H := Option.bind_eq_some_iff.mp H; obtain ⟨⟨t126, t127, t128⟩, A30, H⟩ := H; (try dsimp only at H); have A3 := A_ A30; clear A30
 by_cases c4 : 0 ≤ t126
 ·rw [if_pos c4] at H
  have c4b0 : decide (0 ≤ t126) = true := decide_eq_true c4
  clear c4
  by_cases c5 : t126 < (l1.length : Int)
  ·rw [if_pos c5] at H
   have c5b0 : decide (t126 < (l1.length : Int)) = true := decide_eq_true c5
   clear c5
   simp only [Option.some.injEq, Prod.mk.injEq] at H
   obtain ⟨rfl, rfl, rfl⟩ := H
   go_enter Try.func52, Try.ntmps52
   go_wp2_with (first | ((with_reducible refine gate_callee (f := 50) rfl ?_); refine goesL_ (some 9) rfl rfl Try.func50 kr_ rfl #[.pointer (some ⟨g, 0, none⟩), .int .i64 (l1.length : Int)] rfl q2_ ?_; (with_reducible refine (spec_l1Below.calls g s0_0 s0_1 s0_2 (l1.length : Int) t126 t127 t128 w0 _ ?side1 ?side2 A3.out).mono ?_); (case side1 => exact q8_); (case side2 => exact q3_); rintro e w6 ⟨rfl, hi, hb, hk⟩; refine ⟨_, rfl, ?_⟩; replace HK := A_ (KeepBut.trans (w := w) q4_ hk (.inl rfl)); replace HB := A_ (hb); replace HI0 := A_ (hi); (try clear hb); (try clear hb2); (try clear hk); (try clear hi); have p129 : 0 ≤ (t126 : Int) := of_decide_eq_true q5_; have q129 : t126 < (l1.length : Int) := of_decide_eq_true q5_; obtain ⟨ad129, e129, hx129_0⟩ := Kd.at_int HR1.out t126 p129 q129; cases e129; replace hx129_0 := keep_cell HK.out hx129_0 (by first | (rw [add_block]; exact hf1 _ rfl (by omega)) | exact hf1 _ rfl (by omega) | exact hf1 ad129 rfl (by omega)); replace p129 := eq_true p129; replace q129 := eq_true q129))
   go_ret
   exact ⟨q7_, q8_, q3_, q4_⟩
  ·rw [if_neg c5] at H
   exact absurd H (by simp)
 ·rw [if_neg c4] at H
  exact absurd H (by simp)
def spec_l2Full.f (a0 : Int) : Option (Int) := if 0 ≤ a0 then (some (wrap64 ((shl .i64 1 (shl .u64 1 a0)) - 1))) else (none)
theorem spec_l2Full.calls (a0 : Int) (r : Int) (w : World) (h : spec_l2Full.f a0 = some r) :
  Calls Try.prog 58 #[.int .i64 a0] w fun e w' => e = .returned (.int .i64 r) ∧ Drawn0 w w' := by
 have H : (if 0 ≤ a0 then (some (wrap64 ((shl .i64 1 (shl .u64 1 a0)) - 1))) else (none)) = some r := h
 clear h
 by_cases c2 : 0 ≤ a0
 ·rw [if_pos c2] at H
  have c2b0 := eq_true c2
  have c2b1 : decide (0 ≤ a0) = true := decide_eq_true c2
  clear c2
  obtain ⟨ji3, hji3⟩ : ∃ j_ : Int, (shl .u64 1 a0) = j_ := ⟨_, rfl⟩
  replace H : (some (wrap64 ((shl .i64 1 (ji3)) - 1))) = some r := by first | (rw [hji3] at H; exact H) | (simp only [hji3] at H ⊢; exact H)
  have hji3_ : (IntKind.u64.wrap (1 * 2 ^ min a0.toNat 64)) = ji3 := hji3
  have hji3z : a0 ≤ 64 → (IntKind.u64.wrap (1 * 2 ^ a0.toNat)) = ji3 := shl_small hji3
  have hji3n0 : 0 ≤ ji3 := by rw [← hji3]; exact shl_u_nn _ _
  have hji3n1 := eq_true hji3n0
  have hji3n2 : decide (0 ≤ ji3) = true := decide_eq_true hji3n0
  have hji3u : (IntKind.u64.wrap (2 ^ min a0.toNat 64)) = ji3 := by have h_ := hji3_; rw [Int.one_mul] at h_; exact h_
  have hji3v : a0 ≤ 64 → (IntKind.u64.wrap (2 ^ a0.toNat)) = ji3 := fun hle_ => by have h_ := hji3z hle_; rw [Int.one_mul] at h_; exact h_
  obtain ⟨ji4, hji4⟩ : ∃ j_ : Int, (shl .i64 1 (ji3)) = j_ := ⟨_, rfl⟩
  replace H : (some (wrap64 ((ji4) - 1))) = some r := by first | (rw [hji4] at H; exact H) | (simp only [hji4] at H ⊢; exact H)
  have hji4_ : (IntKind.i64.wrap (1 * 2 ^ min (ji3).toNat 64)) = ji4 := hji4
  have hji4z : (ji3) ≤ 64 → (IntKind.i64.wrap (1 * 2 ^ (ji3).toNat)) = ji4 := shl_small hji4
  have hji4u : (IntKind.i64.wrap (2 ^ min (ji3).toNat 64)) = ji4 := by have h_ := hji4_; rw [Int.one_mul] at h_; exact h_
  have hji4v : (ji3) ≤ 64 → (IntKind.i64.wrap (2 ^ (ji3).toNat)) = ji4 := fun hle_ => by have h_ := hji4z hle_; rw [Int.one_mul] at h_; exact h_
  have hji4y : (wrap64 (1 * 2 ^ min (ji3).toNat 64)) = ji4 := (i64_w _).symm.trans hji4_
  have hji4x : (ji3) ≤ 64 → (wrap64 (1 * 2 ^ (ji3).toNat)) = ji4 := fun h_ => (i64_w _).symm.trans (hji4z h_)
  obtain rfl := Option.some.inj H
  go_enter Try.func58, Try.ntmps58
  go_wp2
  go_ret
  exact ⟨by first | rfl | (simp; done) | (simp only [← hji3, ← hji4] <;> (first | rfl | simp)) | (simp [*]; done), q9_⟩
 ·rw [if_neg c2] at H
  exact absurd H (by simp)
def spec_l2Count.l0 : Nat → Int → Int → Option (Int)
 | 0, _, _ => none
 | k + 1, x3, x4 => if x4 > 0 then (spec_l2Count.l0 k (wrap64 (x3 + (Go.bits .and .i64 x4 1))) (x4 / 2)) else (some x3)
def spec_l2Count.f (k : Nat) (a0 : Int) : Option (Int) := spec_l2Count.l0 k 0 a0
theorem spec_l2Count.calls (k : Nat) (a0 : Int) (r : Int) (w : World) (h : spec_l2Count.f k a0 = some r) :
  Calls Try.prog 60 #[.int .i64 a0] w fun e w' => e = .returned (.int .i64 r) ∧ Drawn0 w w' := by
 have H : (spec_l2Count.l0 k 0 a0) = some r := h
 clear h
 have H' := A_ H
 clear H
 go_enter Try.func60, Try.ntmps60
 go_wp2
 go_loopg [3, 4] k (fun kq v3 v4 w' => ∃ (x3_1 : Int) (x4_1 : Int), v3 = .int .i64 x3_1 ∧ v4 = .int .i64 x4_1 ∧ Aside0 (spec_l2Count.l0 kq x3_1 x4_1 = some r) ∧ Aside0 (kq ≤ k) ∧ Drawn0 w w')
 case atStart => exact ⟨(0), (a0), q1_, q1_, H', ⟨Nat.le_refl _⟩, q9_⟩
 case round =>
  clear H'
  obtain ⟨x3_1, x4_1, rfl, rfl, HA, HK1, ⟨m1, rfl⟩⟩ := hrel
  cases gk with
  | zero => exact absurd HA.out (by simp [spec_l2Count.l0])
  | succ k1 =>
   have H := HA.out
   clear HA
   simp only [spec_l2Count.l0] at H
   by_cases c2 : x4_1 > 0
   ·rw [if_pos c2] at H
    have c2b0 : decide (0 < x4_1) = true := decide_eq_true c2
    clear c2
    have H' := A_ H
    clear H
    go_wp2
    go_roundg k1
    case measure => have := HK1.out; omega
    case rel => exact ⟨(wrap64 (x3_1 + (Go.bits .and .i64 x4_1 1))), (x4_1 / 2), q1_, q1_, H', ⟨by have := HK1.out; omega⟩, q9_⟩
   ·rw [if_neg c2] at H
    have c2b0 : decide (0 < x4_1) = false := decide_eq_false c2
    clear c2
    obtain rfl := Option.some.inj H
    go_wp2
    go_ret
    exact ⟨q1_, q9_⟩
def spec_l2Variable.l0 : Nat → Int → Int → Int → Int → Option (Int)
 | 0, _, _, _, _ => none
 | k + 1, x0, x1, x5, x6 => if 0 ≤ x0 then (if x6 < (shl .i64 1 x0) then (if 0 ≤ x1 then (if (Go.bits .and .i64 (shr .i64 x6 x1) 1) = 1 then (if 0 ≤ x6 then (spec_l2Variable.l0 k x0 x1 (Go.bits .or .i64 x5 (shl .i64 1 x6)) (wrap64 (x6 + 1))) else (none)) else (spec_l2Variable.l0 k x0 x1 x5 (wrap64 (x6 + 1)))) else (none)) else (some x5)) else (none)
def spec_l2Variable.f (k : Nat) (a0 : Int) (a1 : Int) : Option (Int) := spec_l2Variable.l0 k a0 a1 0 0
theorem spec_l2Variable.calls (k : Nat) (a0 : Int) (a1 : Int) (r : Int) (w : World) (h : spec_l2Variable.f k a0 a1 = some r) :
  Calls Try.prog 61 #[.int .i64 a0, .int .i64 a1] w fun e w' => e = .returned (.int .i64 r) ∧ Drawn0 w w' := by
 have H : (spec_l2Variable.l0 k a0 a1 0 0) = some r := h
 clear h
 have H' := A_ H
 clear H
 go_enter Try.func61, Try.ntmps61
 go_wp2
 go_loopg [5, 6] k (fun kq v5 v6 w' => ∃ (x5_1 : Int) (x6_1 : Int), v5 = .int .i64 x5_1 ∧ v6 = .int .i64 x6_1 ∧ Aside0 (spec_l2Variable.l0 kq a0 a1 x5_1 x6_1 = some r) ∧ Aside0 (kq ≤ k) ∧ Drawn0 w w')
 case atStart => exact ⟨(0), (0), q1_, q1_, H', ⟨Nat.le_refl _⟩, q9_⟩
 case round =>
  clear H'; (try clear p2)
  obtain ⟨x5_1, x6_1, rfl, rfl, HA, HK1, ⟨m1, rfl⟩⟩ := hrel
  cases gk with
  | zero => exact absurd HA.out (by simp [spec_l2Variable.l0])
  | succ k1 =>
   have H := HA.out
   clear HA
   simp only [spec_l2Variable.l0] at H
   by_cases c3 : 0 ≤ a0
   ·rw [if_pos c3] at H
    have c3b0 := eq_true c3
    have c3b1 : decide (0 ≤ a0) = true := decide_eq_true c3
    clear c3
    obtain ⟨ji4, hji4⟩ : ∃ j_ : Int, (shl .i64 1 a0) = j_ := ⟨_, rfl⟩
    replace H : (if x6_1 < (ji4) then (if 0 ≤ a1 then (if (Go.bits .and .i64 (shr .i64 x6_1 a1) 1) = 1 then (if 0 ≤ x6_1 then (spec_l2Variable.l0 k1 a0 a1 (Go.bits .or .i64 x5_1 (shl .i64 1 x6_1)) (wrap64 (x6_1 + 1))) else (none)) else (spec_l2Variable.l0 k1 a0 a1 x5_1 (wrap64 (x6_1 + 1)))) else (none)) else (some x5_1)) = some r := by first | (rw [hji4] at H; exact H) | (simp only [hji4] at H ⊢; exact H)
    have hji4_ : (IntKind.i64.wrap (1 * 2 ^ min a0.toNat 64)) = ji4 := hji4
    have hji4z : a0 ≤ 64 → (IntKind.i64.wrap (1 * 2 ^ a0.toNat)) = ji4 := shl_small hji4
    have hji4u : (IntKind.i64.wrap (2 ^ min a0.toNat 64)) = ji4 := by have h_ := hji4_; rw [Int.one_mul] at h_; exact h_
    have hji4v : a0 ≤ 64 → (IntKind.i64.wrap (2 ^ a0.toNat)) = ji4 := fun hle_ => by have h_ := hji4z hle_; rw [Int.one_mul] at h_; exact h_
    have hji4y : (wrap64 (1 * 2 ^ min a0.toNat 64)) = ji4 := (i64_w _).symm.trans hji4_
    have hji4x : a0 ≤ 64 → (wrap64 (1 * 2 ^ a0.toNat)) = ji4 := fun h_ => (i64_w _).symm.trans (hji4z h_)
    by_cases c5 : x6_1 < (ji4)
    ·rw [if_pos c5] at H
     have c5b0 : decide (x6_1 < (ji4)) = true := decide_eq_true c5
     clear c5
     by_cases c6 : 0 ≤ a1
     ·rw [if_pos c6] at H
      have c6b0 := eq_true c6
      have c6b1 : decide (0 ≤ a1) = true := decide_eq_true c6
      clear c6
      obtain ⟨ji7, hji7⟩ : ∃ j_ : Int, (shr .i64 x6_1 a1) = j_ := ⟨_, rfl⟩
      replace H : (if (Go.bits .and .i64 (ji7) 1) = 1 then (if 0 ≤ x6_1 then (spec_l2Variable.l0 k1 a0 a1 (Go.bits .or .i64 x5_1 (shl .i64 1 x6_1)) (wrap64 (x6_1 + 1))) else (none)) else (spec_l2Variable.l0 k1 a0 a1 x5_1 (wrap64 (x6_1 + 1)))) = some r := by first | (rw [hji7] at H; exact H) | (simp only [hji7] at H ⊢; exact H)
      have hji7_ : (x6_1 / 2 ^ min a1.toNat 64) = ji7 := hji7
      have hji7z : a1 ≤ 64 → (x6_1 / 2 ^ a1.toNat) = ji7 := shr_small hji7
      by_cases c8 : (Go.bits .and .i64 (ji7) 1) = 1
      ·rw [if_pos c8] at H
       have c8b0 : ((Go.bits .and .i64 (ji7) 1) == 1) = true := beq_iff_eq.mpr c8
       have c8b1 : ((Go.bits .and .i64 (ji7) 1) != 1) = false := bne_eq_false_iff_eq.mpr c8
       clear c8
       by_cases c9 : 0 ≤ x6_1
       ·rw [if_pos c9] at H
        have c9b0 := eq_true c9
        have c9b1 : decide (0 ≤ x6_1) = true := decide_eq_true c9
        clear c9
        obtain ⟨ji10, hji10⟩ : ∃ j_ : Int, (shl .i64 1 x6_1) = j_ := ⟨_, rfl⟩
        replace H : (spec_l2Variable.l0 k1 a0 a1 (Go.bits .or .i64 x5_1 (ji10)) (wrap64 (x6_1 + 1))) = some r := by first | (rw [hji10] at H; exact H) | (simp only [hji10] at H ⊢; exact H)
        have hji10_ : (IntKind.i64.wrap (1 * 2 ^ min x6_1.toNat 64)) = ji10 := hji10
        have hji10z : x6_1 ≤ 64 → (IntKind.i64.wrap (1 * 2 ^ x6_1.toNat)) = ji10 := shl_small hji10
        have hji10u : (IntKind.i64.wrap (2 ^ min x6_1.toNat 64)) = ji10 := by have h_ := hji10_; rw [Int.one_mul] at h_; exact h_
        have hji10v : x6_1 ≤ 64 → (IntKind.i64.wrap (2 ^ x6_1.toNat)) = ji10 := fun hle_ => by have h_ := hji10z hle_; rw [Int.one_mul] at h_; exact h_
        have hji10y : (wrap64 (1 * 2 ^ min x6_1.toNat 64)) = ji10 := (i64_w _).symm.trans hji10_
        have hji10x : x6_1 ≤ 64 → (wrap64 (1 * 2 ^ x6_1.toNat)) = ji10 := fun h_ => (i64_w _).symm.trans (hji10z h_)
        have H' := A_ H
        clear H
        go_wp2
        go_roundg k1
        case measure => have := HK1.out; omega
        case rel => exact ⟨(Go.bits .or .i64 x5_1 (ji10)), (wrap64 (x6_1 + 1)), (by first | rfl | (simp; done) | (simp only [← hji10] <;> (first | rfl | simp)) | (simp [*]; done)), q1_, H', ⟨by have := HK1.out; omega⟩, q9_⟩
       ·rw [if_neg c9] at H
        exact absurd H (by simp)
      ·rw [if_neg c8] at H
       have c8b0 : ((Go.bits .and .i64 (ji7) 1) == 1) = false := beq_eq_false_iff_ne.mpr c8
       have c8b1 : ((Go.bits .and .i64 (ji7) 1) != 1) = true := bne_iff_ne.mpr c8
       have H' := A_ H
       clear H
       go_wp2
       go_roundg k1
       case measure => have := HK1.out; omega
       case rel => exact ⟨(x5_1), (wrap64 (x6_1 + 1)), q1_, q1_, H', ⟨by have := HK1.out; omega⟩, q9_⟩
     ·rw [if_neg c6] at H
      exact absurd H (by simp)
    ·rw [if_neg c5] at H
     have c5b0 : decide (x6_1 < (ji4)) = false := decide_eq_false c5
     clear c5
     obtain rfl := Option.some.inj H
     go_wp2
     go_ret
     exact ⟨by first | rfl | (simp; done) | (simp only [← hji4] <;> (first | rfl | simp)) | (simp [*]; done), q9_⟩
   ·rw [if_neg c3] at H
    exact absurd H (by simp)
mutual
def spec_l2Draw.l0 : Nat → Int → Int → Int → List Int → Int → Int → Option (Int × Int × Int × Int)
 | 0, _, _, _, _, _, _ => none
 | k + 1, x1, x5, x6, x1000, x1001, x1002 => if 0 ≤ x1 then (if x6 < (shl .i64 1 x1) then ((spec_l2Count.f k x6).bind fun t140 => (if (wrap64 (2 * t140)) > x1 then (if 0 ≤ x6 then (spec_l2Draw.l0 k x1 (Go.bits .or .i64 x5 (shl .i64 1 x6)) (wrap64 (x6 + 1)) x1000 x1001 x1002) else (none)) else (spec_l2Draw.l0 k x1 x5 (wrap64 (x6 + 1)) x1000 x1001 x1002))) else (if x1 = 0 then ((spec_l2Full.f x1).bind fun t141 => (some (x1, Go.bits .and .i64 (Go.bits .and .i64 x5 1) t141, x1001, x1002))) else ((spec_l2Full.f x1).bind fun t142 => (some (x1, Go.bits .and .i64 x5 t142, x1001, x1002))))) else (none)
def spec_l2Draw.l1 : Nat → Int → Int → Int → List Int → Int → Int → Option (Int × Int × Int × Int)
 | 0, _, _, _, _, _, _ => none
 | k + 1, x1, x5, x7, x1000, x1001, x1002 => if 0 ≤ x1 then (if x7 < (shl .i64 1 x1) then ((spec_l2Count.f k x7).bind fun t143 => (if (Int.tmod t143 2) = 1 then (if 0 ≤ x7 then (spec_l2Draw.l1 k x1 (Go.bits .or .i64 x5 (shl .i64 1 x7)) (wrap64 (x7 + 1)) x1000 x1001 x1002) else (none)) else (spec_l2Draw.l1 k x1 x5 (wrap64 (x7 + 1)) x1000 x1001 x1002))) else (if x1 = 0 then ((spec_l2Full.f x1).bind fun t144 => (some (x1, Go.bits .and .i64 (Go.bits .and .i64 x5 1) t144, x1001, x1002))) else ((spec_l2Full.f x1).bind fun t145 => (some (x1, Go.bits .and .i64 x5 t145, x1001, x1002))))) else (none)
def spec_l2Draw.l2 : Nat → Int → Int → Int → Int → List Int → Int → Int → Option (Int × Int × Int × Int)
 | 0, _, _, _, _, _, _, _ => none
 | k + 1, x1, x5, x8, x9, x1000, x1001, x1002 => if 0 ≤ x1 then (if x9 < (shl .i64 1 x1) then (if (Go.bits .and .i64 x9 x8) = x8 then (if 0 ≤ x9 then (spec_l2Draw.l2 k x1 (Go.bits .or .i64 x5 (shl .i64 1 x9)) x8 (wrap64 (x9 + 1)) x1000 x1001 x1002) else (none)) else (spec_l2Draw.l2 k x1 x5 x8 (wrap64 (x9 + 1)) x1000 x1001 x1002)) else (if x1 = 0 then ((spec_l2Full.f x1).bind fun t149 => (some (x1, Go.bits .and .i64 (Go.bits .and .i64 x5 1) t149, x1001, x1002))) else ((spec_l2Full.f x1).bind fun t150 => (some (x1, Go.bits .and .i64 x5 t150, x1001, x1002))))) else (none)
def spec_l2Draw.l3 : Nat → Int → Int → Int → List Int → Int → Int → Option (Int × Int × Int × Int)
 | 0, _, _, _, _, _, _ => none
 | k + 1, x1, x5, x10, x1000, x1001, x1002 => if 0 ≤ x1 then (if x10 < (shl .i64 1 x1) then ((spec_l1Below.f x1000 x1001 x1002 2).bind fun bt151 => (if 0 ≤ x10 then (spec_l2Draw.l3 k x1 (Go.bits .or .i64 x5 (shl .i64 bt151.1 x10)) (wrap64 (x10 + 1)) x1000 bt151.2.1 bt151.2.2) else (none))) else (if x1 = 0 then ((spec_l2Full.f x1).bind fun t154 => (some (x1, Go.bits .and .i64 (Go.bits .and .i64 x5 1) t154, x1001, x1002))) else ((spec_l2Full.f x1).bind fun t155 => (some (x1, Go.bits .and .i64 x5 t155, x1001, x1002))))) else (none)
end
def spec_l2Draw.f (k : Nat) (s0_0 : List Int) (s0_1 : Int) (s0_2 : Int) (a1 : Int) : Option (Int × Int × Int × Int) := (spec_l1Below.f s0_0 s0_1 s0_2 6).bind fun bt131 => (if bt131.1 = 0 then ((spec_l1Below.f s0_0 bt131.2.1 bt131.2.2 (mx 1 a1)).bind fun bt134 => ((spec_l2Variable.f k a1 bt134.1).bind fun t137 => (if a1 = 0 then ((spec_l2Full.f a1).bind fun t138 => (some (a1, Go.bits .and .i64 (Go.bits .and .i64 t137 1) t138, bt134.2.1, bt134.2.2))) else ((spec_l2Full.f a1).bind fun t139 => (some (a1, Go.bits .and .i64 t137 t139, bt134.2.1, bt134.2.2)))))) else (if bt131.1 = 1 then (spec_l2Draw.l0 k a1 0 0 s0_0 bt131.2.1 bt131.2.2) else (if bt131.1 = 2 then (spec_l2Draw.l1 k a1 0 0 s0_0 bt131.2.1 bt131.2.2) else (if bt131.1 = 3 then (if 0 ≤ a1 then ((spec_l1Below.f s0_0 bt131.2.1 bt131.2.2 (shl .i64 1 a1)).bind fun bt146 => (spec_l2Draw.l2 k a1 0 bt146.1 0 s0_0 bt146.2.1 bt146.2.2)) else (none)) else (spec_l2Draw.l3 k a1 0 0 s0_0 bt131.2.1 bt131.2.2)))))
theorem spec_l2Draw.calls (k : Nat) (g : Nat) (s0_0 : List Int) (s0_1 : Int) (s0_2 : Int) (a1 : Int) (r1 : Int) (r2 : Int) (r3 : Int) (r4 : Int) (w0 w : World) (hI : IsS72 w0 w g s0_0 s0_1 s0_2) (hB : Below w0.heap.size w0 w) (h : spec_l2Draw.f k s0_0 s0_1 s0_2 a1 = some (r1, r2, r3, r4)) :
  Calls Try.prog 70 #[.pointer (some ⟨g, 0, none⟩), .int .i64 a1] w fun e w' => e = .returned (.agg #[.int .i64 r1, .int .i64 r2]) ∧ IsS72 w0 w' g s0_0 r3 r4 ∧ Below w0.heap.size w0 w' ∧ KeepBut w w' g none := by
 have hu25 := Try.underlying25
 have HI0 := A_ hI
 have HK := A_ (KeepBut.refl w g none)
 have HL := A_ hB.size
 clear hI
 have HW0 := A_ hB.size
 have HB := A_ hB; clear hB
 have H : ((spec_l1Below.f s0_0 s0_1 s0_2 6).bind fun bt131 => (if bt131.1 = 0 then ((spec_l1Below.f s0_0 bt131.2.1 bt131.2.2 (mx 1 a1)).bind fun bt134 => ((spec_l2Variable.f k a1 bt134.1).bind fun t137 => (if a1 = 0 then ((spec_l2Full.f a1).bind fun t138 => (some (a1, Go.bits .and .i64 (Go.bits .and .i64 t137 1) t138, bt134.2.1, bt134.2.2))) else ((spec_l2Full.f a1).bind fun t139 => (some (a1, Go.bits .and .i64 t137 t139, bt134.2.1, bt134.2.2)))))) else (if bt131.1 = 1 then (spec_l2Draw.l0 k a1 0 0 s0_0 bt131.2.1 bt131.2.2) else (if bt131.1 = 2 then (spec_l2Draw.l1 k a1 0 0 s0_0 bt131.2.1 bt131.2.2) else (if bt131.1 = 3 then (if 0 ≤ a1 then ((spec_l1Below.f s0_0 bt131.2.1 bt131.2.2 (shl .i64 1 a1)).bind fun bt146 => (spec_l2Draw.l2 k a1 0 bt146.1 0 s0_0 bt146.2.1 bt146.2.2)) else (none)) else (spec_l2Draw.l3 k a1 0 0 s0_0 bt131.2.1 bt131.2.2)))))) = some (r1, r2, r3, r4) := h
 clear h; replace H := Option.bind_eq_some_iff.mp H; obtain ⟨⟨t131, t132, t133⟩, A30, H⟩ := H; (try dsimp only at H); have A3 := A_ A30; clear A30
 by_cases c4 : t131 = 0
 ·rw [if_pos c4] at H
  have c4b0 : (t131 == 0) = true := beq_iff_eq.mpr c4
  have c4z64 : t131 ≤ 64 := by have h_ := beq_iff_eq.mp c4b0; omega
  have c4b1 : (t131 != 0) = false := bne_eq_false_iff_eq.mpr c4
  clear c4
  obtain ⟨ji5, hji5⟩ : ∃ j_ : Int, (mx 1 a1) = j_ := ⟨_, rfl⟩
  replace H : ((spec_l1Below.f s0_0 t132 t133 (ji5)).bind fun bt134 => ((spec_l2Variable.f k a1 bt134.1).bind fun t137 => (if a1 = 0 then ((spec_l2Full.f a1).bind fun t138 => (some (a1, Go.bits .and .i64 (Go.bits .and .i64 t137 1) t138, bt134.2.1, bt134.2.2))) else ((spec_l2Full.f a1).bind fun t139 => (some (a1, Go.bits .and .i64 t137 t139, bt134.2.1, bt134.2.2)))))) = some (r1, r2, r3, r4) := q13_
  (try rw [hji5] at A3)
  (try (have hji5l : 1 ≤ ji5 := by (rw [← hji5]; unfold mx; (repeat' split) <;> omega)))
  (try (have hji5m : 0 ≤ ji5 := by omega))
  have hji5_ : (if 1 < a1 then a1 else 1) = ji5 := hji5
  replace H := Option.bind_eq_some_iff.mp H; obtain ⟨⟨t134, t135, t136⟩, A60, H⟩ := H; (try dsimp only at H); have A6 := A_ A60; clear A60; replace H := Option.bind_eq_some_iff.mp H; obtain ⟨t137, A70, H⟩ := H; (try dsimp only at H); have A7 := A_ A70; clear A70
  by_cases c8 : a1 = 0
  ·rw [if_pos c8] at H
   have c8b0 : (a1 == 0) = true := beq_iff_eq.mpr c8
   have c8z64 : a1 ≤ 64 := by have h_ := beq_iff_eq.mp c8b0; omega
   have c8b1 : (a1 != 0) = false := bne_eq_false_iff_eq.mpr c8
   clear c8; replace H := Option.bind_eq_some_iff.mp H; obtain ⟨t138, A90, H⟩ := H
   replace H : (some (a1, Go.bits .and .i64 (Go.bits .and .i64 t137 1) t138, t135, t136)) = some (r1, r2, r3, r4) := H
   have A9 := A_ A90; clear A90
   simp only [Option.some.injEq, Prod.mk.injEq] at H
   obtain ⟨rfl, rfl, rfl, rfl⟩ := H
   go_enter Try.func70, Try.ntmps70
   go_wp2_with (first | ((with_reducible refine gate_dst (N := 4) rfl ?_); refine box_event ?hg (N := 4) ?hd (cs := #[.int .i64 0, .int .i64 0]) (t := 25) ?hr ?_; (case hd => rfl); (case hg => rfl); (case hr => first | (go_simp; done) | (go_simp; rfl)); intro gb130 hg w10 hbox hb; replace HB := A_ (below_step q3_ hb); have BK130 := A_ (hbox); have GW130 := A_ ((by rw [hg]; exact (keep_size (w := w) (g := g) (row := none) q4_) : w.heap.size ≤ gb130)); have GE130 := A_ ((Nat.le_trans HW0.out (by rw [hg]; exact (keep_size (w := w) (g := g) (row := none) q4_) : w.heap.size ≤ gb130) : w0.heap.size ≤ gb130)); replace HK := A_ (KeepBut.trans (w := w) q4_ (KeepBut.of_below hb g none) (.inl rfl)); have NB0_130 := A_ ((by rw [hg]; exact Nat.ne_of_lt (IsS72.lt (show IsS72 w0 _ g s0_0 s0_1 s0_2 from q8_)) : g ≠ gb130)); have NB130_0 := A_ ((by rw [hg]; exact Nat.ne_of_gt (IsS72.lt (show IsS72 w0 _ g s0_0 s0_1 s0_2 from q8_)) : gb130 ≠ g)); replace HI0 := A_ (IsS72.below q8_ hb); clear hb hbox hg) | ((with_reducible refine gate_callee (f := 50) rfl ?_); refine goesL_ (some 12) rfl rfl Try.func50 kr_ rfl #[.pointer (some ⟨g, 0, none⟩), .int .i64 6] rfl q2_ ?_; (with_reducible refine (spec_l1Below.calls g s0_0 s0_1 s0_2 6 t131 t132 t133 w0 _ ?side1 ?side2 A3.out).mono ?_); (case side1 => exact q6_); (case side2 => exact q3_); rintro e w11 ⟨rfl, hi, hb, hk⟩; refine ⟨_, rfl, ?_⟩; replace BK130 := A_ (KeepBut.blk hk (g' := gb130) (o := .cells #[.int .i64 0, .int .i64 0] 25 (0, 0)) (M.Lb BK130) NB130_0.out (by simp)); replace HK := A_ (KeepBut.trans (w := w) q4_ hk (.inl rfl)); replace HB := A_ (hb); replace HI0 := A_ (hi); (try clear hb); (try clear hb2); (try clear hk); (try clear hi)) | ((with_reducible refine gate_callee (f := 50) rfl ?_); refine goesL_ (some 31) rfl rfl Try.func50 kr_ rfl #[.pointer (some ⟨g, 0, none⟩), .int .i64 ji5] rfl (by (try simp only [List.map_toArray, List.map_cons, List.map_nil]); first | done | (simp only [hji5]; rfl) | rfl | (simp only [List.length_drop, List.length_take]; rfl)) ?_; (with_reducible refine (spec_l1Below.calls g s0_0 t132 t133 ji5 t134 t135 t136 w0 _ ?side1 ?side2 A6.out).mono ?_); (case side1 => exact q6_); (case side2 => exact q3_); rintro e w12 ⟨rfl, hi, hb, hk⟩; refine ⟨_, rfl, ?_⟩; replace BK130 := A_ (KeepBut.blk hk (g' := gb130) (o := .cells #[.int .i64 0, .int .i64 0] 25 (0, 0)) (M.Lb BK130) NB130_0.out (by simp)); replace HK := A_ (KeepBut.trans (w := w) q4_ hk (.inl rfl)); replace HB := A_ (hb); replace HI0 := A_ (hi); (try clear hb); (try clear hb2); (try clear hk); (try clear hi)) | ((with_reducible refine gate_callee (f := 61) rfl ?_); refine goesL_ (some 32) rfl rfl Try.func61 kr_ rfl #[.int .i64 a1, .int .i64 t134] rfl q2_ ?_; (with_reducible refine (spec_l2Variable.calls k a1 t134 t137 _ A7.out).mono ?_); rintro e w' ⟨rfl, ⟨nd, rfl⟩⟩; refine ⟨_, rfl, ?_⟩; (try (rw [drewN_self w12]; generalize hq_ : World.drewN w12 _ = w12; have n0_ : Aside0 (w12.heap[gb130]? = some (.cells #[.int .i64 0, .int .i64 0] 25 (0, 0))) := ⟨by rw [← hq_]; exact (M.Lb BK130)⟩; have n1_ : Aside0 (IsS72 w0 w12 g s0_0 t135 t136) := ⟨by rw [← hq_]; exact q6_⟩; have n2_ : Aside0 (KeepBut w w12 g none) := ⟨by rw [← hq_]; exact q4_⟩; have n3_ : Aside0 (Below w0.heap.size w0 w12) := ⟨by rw [← hq_]; exact q3_⟩; clear BK130 HI0 HK HB hq_; have BK130 := n0_; have HI0 := n1_; have HK := n2_; have HB := n3_; clear n0_ n1_ n2_ n3_))) | ((with_reducible refine gate_callee (f := 58) rfl ?_); refine goesL_ (some 94) rfl rfl Try.func58 kr_ rfl #[.int .i64 a1] rfl q2_ ?_; (with_reducible refine (spec_l2Full.calls a1 t138 _ A9.out).mono ?_); rintro e w' ⟨rfl, ⟨nd, rfl⟩⟩; refine ⟨_, rfl, ?_⟩; (try (rw [drewN_self w12]; generalize hq_ : World.drewN w12 _ = w12; have n0_ : Aside0 (w12.heap[gb130]? = some (.cells #[.int .i64 0, .int .i64 0] 25 (0, 0))) := ⟨by rw [← hq_]; exact (M.Lb BK130)⟩; have n1_ : Aside0 (IsS72 w0 w12 g s0_0 t135 t136) := ⟨by rw [← hq_]; exact q6_⟩; have n2_ : Aside0 (KeepBut w w12 g none) := ⟨by rw [← hq_]; exact q4_⟩; have n3_ : Aside0 (Below w0.heap.size w0 w12) := ⟨by rw [← hq_]; exact q3_⟩; clear BK130 HI0 HK HB hq_; have BK130 := n0_; have HI0 := n1_; have HK := n2_; have HB := n3_; clear n0_ n1_ n2_ n3_)); have hnb13 := NB130_0.out; have hnc13 := NB0_130.out; have hcz14_0 := c20_ BK130; have hcz14_1 := c21_ BK130; have hfz14_0 := blk_frozen BK130.out 0; have hfz14_1 := blk_frozen BK130.out 1))
   refine bodyPost_ret (results_cell_row rfl _ _ gb130 25 #[.int .i64 a1, .int .i64 (Go.bits .and .i64 (Go.bits .and .i64 t137 1) t138)] (0, 0) _ rfl (by (with_reducible repeat (first | refine blk_drewN ?_ _ | refine blk_drew ?_ | refine blk_alloc ?_ _)); refine blk_put (cs := #[.int .i64 a1, .int .i64 0]) ?_ 1 _ rfl; (with_reducible repeat (first | refine blk_drewN ?_ _ | refine blk_drew ?_ | refine blk_alloc ?_ _)); refine blk_put (cs := #[.int .i64 0, .int .i64 0]) ?_ 0 _ rfl; (with_reducible repeat (first | refine blk_drewN ?_ _ | refine blk_drew ?_ | refine blk_alloc ?_ _)); exact BK130.out) Try.underlying25 rfl kr_) rfl ?_
   exact ⟨q16_, q6_, q3_, q4_⟩
  ·rw [if_neg c8] at H
   have c8b0 : (a1 == 0) = false := beq_eq_false_iff_ne.mpr c8
   have c8b1 : (a1 != 0) = true := bne_iff_ne.mpr c8
   replace H := Option.bind_eq_some_iff.mp H; obtain ⟨t139, A150, H⟩ := H
   replace H : (some (a1, Go.bits .and .i64 t137 t139, t135, t136)) = some (r1, r2, r3, r4) := H
   have A15 := A_ A150; clear A150
   simp only [Option.some.injEq, Prod.mk.injEq] at H
   obtain ⟨rfl, rfl, rfl, rfl⟩ := H
   go_enter Try.func70, Try.ntmps70
   go_wp2_with (first | ((with_reducible refine gate_dst (N := 4) rfl ?_); refine box_event ?hg (N := 4) ?hd (cs := #[.int .i64 0, .int .i64 0]) (t := 25) ?hr ?_; (case hd => rfl); (case hg => rfl); (case hr => first | (go_simp; done) | (go_simp; rfl)); intro gb130 hg w16 hbox hb; replace HB := A_ (below_step q3_ hb); have BK130 := A_ (hbox); have GW130 := A_ ((by rw [hg]; exact (keep_size (w := w) (g := g) (row := none) q4_) : w.heap.size ≤ gb130)); have GE130 := A_ ((Nat.le_trans HW0.out (by rw [hg]; exact (keep_size (w := w) (g := g) (row := none) q4_) : w.heap.size ≤ gb130) : w0.heap.size ≤ gb130)); replace HK := A_ (KeepBut.trans (w := w) q4_ (KeepBut.of_below hb g none) (.inl rfl)); have NB0_130 := A_ ((by rw [hg]; exact Nat.ne_of_lt (IsS72.lt (show IsS72 w0 _ g s0_0 s0_1 s0_2 from q8_)) : g ≠ gb130)); have NB130_0 := A_ ((by rw [hg]; exact Nat.ne_of_gt (IsS72.lt (show IsS72 w0 _ g s0_0 s0_1 s0_2 from q8_)) : gb130 ≠ g)); replace HI0 := A_ (IsS72.below q8_ hb); clear hb hbox hg) | ((with_reducible refine gate_callee (f := 50) rfl ?_); refine goesL_ (some 12) rfl rfl Try.func50 kr_ rfl #[.pointer (some ⟨g, 0, none⟩), .int .i64 6] rfl q2_ ?_; (with_reducible refine (spec_l1Below.calls g s0_0 s0_1 s0_2 6 t131 t132 t133 w0 _ ?side1 ?side2 A3.out).mono ?_); (case side1 => exact q6_); (case side2 => exact q3_); rintro e w17 ⟨rfl, hi, hb, hk⟩; refine ⟨_, rfl, ?_⟩; replace BK130 := A_ (KeepBut.blk hk (g' := gb130) (o := .cells #[.int .i64 0, .int .i64 0] 25 (0, 0)) (M.Lb BK130) NB130_0.out (by simp)); replace HK := A_ (KeepBut.trans (w := w) q4_ hk (.inl rfl)); replace HB := A_ (hb); replace HI0 := A_ (hi); (try clear hb); (try clear hb2); (try clear hk); (try clear hi)) | ((with_reducible refine gate_callee (f := 50) rfl ?_); refine goesL_ (some 31) rfl rfl Try.func50 kr_ rfl #[.pointer (some ⟨g, 0, none⟩), .int .i64 ji5] rfl (by (try simp only [List.map_toArray, List.map_cons, List.map_nil]); first | done | (simp only [hji5]; rfl) | rfl | (simp only [List.length_drop, List.length_take]; rfl)) ?_; (with_reducible refine (spec_l1Below.calls g s0_0 t132 t133 ji5 t134 t135 t136 w0 _ ?side1 ?side2 A6.out).mono ?_); (case side1 => exact q6_); (case side2 => exact q3_); rintro e w18 ⟨rfl, hi, hb, hk⟩; refine ⟨_, rfl, ?_⟩; replace BK130 := A_ (KeepBut.blk hk (g' := gb130) (o := .cells #[.int .i64 0, .int .i64 0] 25 (0, 0)) (M.Lb BK130) NB130_0.out (by simp)); replace HK := A_ (KeepBut.trans (w := w) q4_ hk (.inl rfl)); replace HB := A_ (hb); replace HI0 := A_ (hi); (try clear hb); (try clear hb2); (try clear hk); (try clear hi)) | ((with_reducible refine gate_callee (f := 61) rfl ?_); refine goesL_ (some 32) rfl rfl Try.func61 kr_ rfl #[.int .i64 a1, .int .i64 t134] rfl q2_ ?_; (with_reducible refine (spec_l2Variable.calls k a1 t134 t137 _ A7.out).mono ?_); rintro e w' ⟨rfl, ⟨nd, rfl⟩⟩; refine ⟨_, rfl, ?_⟩; (try (rw [drewN_self w18]; generalize hq_ : World.drewN w18 _ = w18; have n0_ : Aside0 (w18.heap[gb130]? = some (.cells #[.int .i64 0, .int .i64 0] 25 (0, 0))) := ⟨by rw [← hq_]; exact (M.Lb BK130)⟩; have n1_ : Aside0 (IsS72 w0 w18 g s0_0 t135 t136) := ⟨by rw [← hq_]; exact q6_⟩; have n2_ : Aside0 (KeepBut w w18 g none) := ⟨by rw [← hq_]; exact q4_⟩; have n3_ : Aside0 (Below w0.heap.size w0 w18) := ⟨by rw [← hq_]; exact q3_⟩; clear BK130 HI0 HK HB hq_; have BK130 := n0_; have HI0 := n1_; have HK := n2_; have HB := n3_; clear n0_ n1_ n2_ n3_))) | ((with_reducible refine gate_callee (f := 58) rfl ?_); refine goesL_ (some 94) rfl rfl Try.func58 kr_ rfl #[.int .i64 a1] rfl q2_ ?_; (with_reducible refine (spec_l2Full.calls a1 t139 _ A15.out).mono ?_); rintro e w' ⟨rfl, ⟨nd, rfl⟩⟩; refine ⟨_, rfl, ?_⟩; (try (rw [drewN_self w18]; generalize hq_ : World.drewN w18 _ = w18; have n0_ : Aside0 (w18.heap[gb130]? = some (.cells #[.int .i64 0, .int .i64 0] 25 (0, 0))) := ⟨by rw [← hq_]; exact (M.Lb BK130)⟩; have n1_ : Aside0 (IsS72 w0 w18 g s0_0 t135 t136) := ⟨by rw [← hq_]; exact q6_⟩; have n2_ : Aside0 (KeepBut w w18 g none) := ⟨by rw [← hq_]; exact q4_⟩; have n3_ : Aside0 (Below w0.heap.size w0 w18) := ⟨by rw [← hq_]; exact q3_⟩; clear BK130 HI0 HK HB hq_; have BK130 := n0_; have HI0 := n1_; have HK := n2_; have HB := n3_; clear n0_ n1_ n2_ n3_)); have hnb19 := NB130_0.out; have hnc19 := NB0_130.out; have hcz20_0 := c20_ BK130; have hcz20_1 := c21_ BK130; have hfz20_0 := blk_frozen BK130.out 0; have hfz20_1 := blk_frozen BK130.out 1))
   refine bodyPost_ret (results_cell_row rfl _ _ gb130 25 #[.int .i64 a1, .int .i64 (Go.bits .and .i64 t137 t139)] (0, 0) _ rfl (by (with_reducible repeat (first | refine blk_drewN ?_ _ | refine blk_drew ?_ | refine blk_alloc ?_ _)); refine blk_put (cs := #[.int .i64 a1, .int .i64 0]) ?_ 1 _ rfl; (with_reducible repeat (first | refine blk_drewN ?_ _ | refine blk_drew ?_ | refine blk_alloc ?_ _)); refine blk_put (cs := #[.int .i64 0, .int .i64 0]) ?_ 0 _ rfl; (with_reducible repeat (first | refine blk_drewN ?_ _ | refine blk_drew ?_ | refine blk_alloc ?_ _)); exact BK130.out) Try.underlying25 rfl kr_) rfl ?_
   exact ⟨q16_, q6_, q3_, q4_⟩
 ·rw [if_neg c4] at H
  have c4b0 : (t131 == 0) = false := beq_eq_false_iff_ne.mpr c4
  have c4b1 : (t131 != 0) = true := bne_iff_ne.mpr c4
  by_cases c21 : t131 = 1
  ·rw [if_pos c21] at H
   have c21b0 : (t131 == 1) = true := beq_iff_eq.mpr c21
   have c21b1 : (t131 != 1) = false := bne_eq_false_iff_eq.mpr c21
   clear c21
   have H' := A_ H
   clear H
   go_enter Try.func70, Try.ntmps70
   go_wp2_with (first | ((with_reducible refine gate_dst (N := 4) rfl ?_); refine box_event ?hg (N := 4) ?hd (cs := #[.int .i64 0, .int .i64 0]) (t := 25) ?hr ?_; (case hd => rfl); (case hg => rfl); (case hr => first | (go_simp; done) | (go_simp; rfl)); intro gb130 hg w22 hbox hb; replace HB := A_ (below_step q3_ hb); have BK130 := A_ (hbox); have GW130 := A_ ((by rw [hg]; exact (keep_size (w := w) (g := g) (row := none) q4_) : w.heap.size ≤ gb130)); have GE130 := A_ ((Nat.le_trans HW0.out (by rw [hg]; exact (keep_size (w := w) (g := g) (row := none) q4_) : w.heap.size ≤ gb130) : w0.heap.size ≤ gb130)); replace HK := A_ (KeepBut.trans (w := w) q4_ (KeepBut.of_below hb g none) (.inl rfl)); have NB0_130 := A_ ((by rw [hg]; exact Nat.ne_of_lt (IsS72.lt (show IsS72 w0 _ g s0_0 s0_1 s0_2 from q8_)) : g ≠ gb130)); have NB130_0 := A_ ((by rw [hg]; exact Nat.ne_of_gt (IsS72.lt (show IsS72 w0 _ g s0_0 s0_1 s0_2 from q8_)) : gb130 ≠ g)); replace HI0 := A_ (IsS72.below q8_ hb); clear hb hbox hg) | ((with_reducible refine gate_callee (f := 50) rfl ?_); refine goesL_ (some 12) rfl rfl Try.func50 kr_ rfl #[.pointer (some ⟨g, 0, none⟩), .int .i64 6] rfl q2_ ?_; (with_reducible refine (spec_l1Below.calls g s0_0 s0_1 s0_2 6 t131 t132 t133 w0 _ ?side1 ?side2 A3.out).mono ?_); (case side1 => exact q6_); (case side2 => exact q3_); rintro e w23 ⟨rfl, hi, hb, hk⟩; refine ⟨_, rfl, ?_⟩; replace BK130 := A_ (KeepBut.blk hk (g' := gb130) (o := .cells #[.int .i64 0, .int .i64 0] 25 (0, 0)) (M.Lb BK130) NB130_0.out (by simp)); replace HK := A_ (KeepBut.trans (w := w) q4_ hk (.inl rfl)); replace HB := A_ (hb); replace HI0 := A_ (hi); (try clear hb); (try clear hb2); (try clear hk); (try clear hi)))
   go_loopg [5, 6] k (fun kq v5 v6 w' => ∃ (x5_1 : Int) (x6_1 : Int), v5 = .int .i64 x5_1 ∧ v6 = .int .i64 x6_1 ∧ Aside0 (spec_l2Draw.l0 kq a1 x5_1 x6_1 s0_0 t132 t133 = some (r1, r2, r3, r4)) ∧ Aside0 (kq ≤ k) ∧ Aside0 (w'.heap[gb130]? = some (.cells #[.int .i64 0, .int .i64 0] 25 (0, 0))) ∧ Aside0 (IsS72 w0 w' g s0_0 t132 t133) ∧ Aside0 (KeepBut w w' g none) ∧ Aside0 (Below w0.heap.size w0 w'))
   case atStart => exact ⟨(0), (0), q1_, q1_, H', ⟨Nat.le_refl _⟩, ⟨M.Lb BK130⟩, ⟨q6_⟩, ⟨q4_⟩, ⟨q3_⟩⟩
   case round =>
    clear H'; (try clear c1); (try clear c2); (try clear p2); (try clear c4); (try clear c4b0); (try clear c4b1); (try clear c5); (try clear c6); (try clear c7); (try clear c8); (try clear c8b0); (try clear c8b1); (try clear c13); (try clear c19); (try clear c21); (try clear c21b0); (try clear c21b1); (try clear hcz14_0); (try clear hcz14_1); (try clear hcz20_0); (try clear hcz20_1); (try clear hfz14_0); (try clear hfz14_1); (try clear hfz20_0); (try clear hfz20_1); obtain ⟨x5_1, x6_1, rfl, rfl, HA, HK1, BK130, HI0, HK, HB⟩ := hrel
    cases gk with
    | zero => exact absurd HA.out (by simp [spec_l2Draw.l0])
    | succ k1 =>
     have H := HA.out
     clear HA
     simp only [spec_l2Draw.l0] at H
     by_cases c24 : 0 ≤ a1
     ·rw [if_pos c24] at H
      have c24b0 := eq_true c24
      have c24b1 : decide (0 ≤ a1) = true := decide_eq_true c24
      clear c24
      obtain ⟨ji25, hji25⟩ : ∃ j_ : Int, (shl .i64 1 a1) = j_ := ⟨_, rfl⟩
      replace H : (if x6_1 < (ji25) then ((spec_l2Count.f k1 x6_1).bind fun t140 => (if (wrap64 (2 * t140)) > a1 then (if 0 ≤ x6_1 then (spec_l2Draw.l0 k1 a1 (Go.bits .or .i64 x5_1 (shl .i64 1 x6_1)) (wrap64 (x6_1 + 1)) s0_0 t132 t133) else (none)) else (spec_l2Draw.l0 k1 a1 x5_1 (wrap64 (x6_1 + 1)) s0_0 t132 t133))) else (if a1 = 0 then ((spec_l2Full.f a1).bind fun t141 => (some (a1, Go.bits .and .i64 (Go.bits .and .i64 x5_1 1) t141, t132, t133))) else ((spec_l2Full.f a1).bind fun t142 => (some (a1, Go.bits .and .i64 x5_1 t142, t132, t133))))) = some (r1, r2, r3, r4) := by first | (rw [hji25] at H; exact H) | (simp only [hji25] at H ⊢; exact H)
      have hji25_ : (IntKind.i64.wrap (1 * 2 ^ min a1.toNat 64)) = ji25 := hji25
      have hji25z : a1 ≤ 64 → (IntKind.i64.wrap (1 * 2 ^ a1.toNat)) = ji25 := shl_small hji25
      have hji25u : (IntKind.i64.wrap (2 ^ min a1.toNat 64)) = ji25 := by have h_ := hji25_; rw [Int.one_mul] at h_; exact h_
      have hji25v : a1 ≤ 64 → (IntKind.i64.wrap (2 ^ a1.toNat)) = ji25 := fun hle_ => by have h_ := hji25z hle_; rw [Int.one_mul] at h_; exact h_
      have hji25y : (wrap64 (1 * 2 ^ min a1.toNat 64)) = ji25 := (i64_w _).symm.trans hji25_
      have hji25x : a1 ≤ 64 → (wrap64 (1 * 2 ^ a1.toNat)) = ji25 := fun h_ => (i64_w _).symm.trans (hji25z h_)
      have hji25q : a1 ≤ 64 → (wrap64 (2 ^ a1.toNat)) = ji25 := fun h_ => (i64_w _).symm.trans (hji25v h_)
      have hji25p := (i64_w _).symm.trans hji25u
      by_cases c26 : x6_1 < (ji25)
      ·rw [if_pos c26] at H
       have c26b0 : decide (x6_1 < (ji25)) = true := decide_eq_true c26
       clear c26; replace H := Option.bind_eq_some_iff.mp H; obtain ⟨t140, A270, H⟩ := H; (try dsimp only at H); have A27 := A_ A270; clear A270
       by_cases c28 : (wrap64 (2 * t140)) > a1
       ·rw [if_pos c28] at H
        have c28b0 : decide (a1 < (wrap64 (2 * t140))) = true := decide_eq_true c28
        clear c28
        by_cases c29 : 0 ≤ x6_1
        ·rw [if_pos c29] at H
         have c29b0 := eq_true c29
         have c29b1 : decide (0 ≤ x6_1) = true := decide_eq_true c29
         clear c29
         obtain ⟨ji30, hji30⟩ : ∃ j_ : Int, (shl .i64 1 x6_1) = j_ := ⟨_, rfl⟩
         replace H : (spec_l2Draw.l0 k1 a1 (Go.bits .or .i64 x5_1 (ji30)) (wrap64 (x6_1 + 1)) s0_0 t132 t133) = some (r1, r2, r3, r4) := by first | (rw [hji30] at H; exact H) | (simp only [hji30] at H ⊢; exact H)
         (try rw [hji30] at A27)
         have hji30_ : (IntKind.i64.wrap (1 * 2 ^ min x6_1.toNat 64)) = ji30 := hji30
         have hji30z : x6_1 ≤ 64 → (IntKind.i64.wrap (1 * 2 ^ x6_1.toNat)) = ji30 := shl_small hji30
         have hji30u : (IntKind.i64.wrap (2 ^ min x6_1.toNat 64)) = ji30 := by have h_ := hji30_; rw [Int.one_mul] at h_; exact h_
         have hji30v : x6_1 ≤ 64 → (IntKind.i64.wrap (2 ^ x6_1.toNat)) = ji30 := fun hle_ => by have h_ := hji30z hle_; rw [Int.one_mul] at h_; exact h_
         have hji30y : (wrap64 (1 * 2 ^ min x6_1.toNat 64)) = ji30 := (i64_w _).symm.trans hji30_
         have hji30x : x6_1 ≤ 64 → (wrap64 (1 * 2 ^ x6_1.toNat)) = ji30 := fun h_ => (i64_w _).symm.trans (hji30z h_)
         have hji30q : x6_1 ≤ 64 → (wrap64 (2 ^ x6_1.toNat)) = ji30 := fun h_ => (i64_w _).symm.trans (hji30v h_)
         have hji30p := (i64_w _).symm.trans hji30u
         have H' := A_ H
         clear H
         go_wp2_with (first | ((with_reducible refine gate_callee (f := 60) rfl ?_); refine goesL_ (some 42) rfl rfl Try.func60 kr_ rfl #[.int .i64 x6_1] rfl q2_ ?_; (with_reducible refine (spec_l2Count.calls k1 x6_1 t140 _ A27.out).mono ?_); rintro e w' ⟨rfl, ⟨nd, rfl⟩⟩; refine ⟨_, rfl, ?_⟩))
         go_roundg k1
         case measure => have := HK1.out; omega
         case rel => exact ⟨(Go.bits .or .i64 x5_1 (ji30)), (wrap64 (x6_1 + 1)), (by first | rfl | (simp; done) | (simp only [← hji30] <;> (first | rfl | simp)) | (simp [*]; done)), q1_, H', ⟨by have := HK1.out; omega⟩, ⟨M.Lb BK130⟩, ⟨q6_⟩, ⟨q4_⟩, ⟨q3_⟩⟩
        ·rw [if_neg c29] at H
         exact absurd H (by simp)
       ·rw [if_neg c28] at H
        have c28b0 : decide (a1 < (wrap64 (2 * t140))) = false := decide_eq_false c28
        clear c28
        have H' := A_ H
        clear H
        go_wp2_with (first | ((with_reducible refine gate_callee (f := 60) rfl ?_); refine goesL_ (some 42) rfl rfl Try.func60 kr_ rfl #[.int .i64 x6_1] rfl q2_ ?_; (with_reducible refine (spec_l2Count.calls k1 x6_1 t140 _ A27.out).mono ?_); rintro e w' ⟨rfl, ⟨nd, rfl⟩⟩; refine ⟨_, rfl, ?_⟩))
        go_roundg k1
        case measure => have := HK1.out; omega
        case rel => exact ⟨(x5_1), (wrap64 (x6_1 + 1)), q1_, q1_, H', ⟨by have := HK1.out; omega⟩, ⟨M.Lb BK130⟩, ⟨q6_⟩, ⟨q4_⟩, ⟨q3_⟩⟩
      ·rw [if_neg c26] at H
       have c26b0 : decide (x6_1 < (ji25)) = false := decide_eq_false c26
       clear c26
       by_cases c31 : a1 = 0
       ·rw [if_pos c31] at H
        have c31b0 : (a1 == 0) = true := beq_iff_eq.mpr c31
        have c31z64 : a1 ≤ 64 := by have h_ := beq_iff_eq.mp c31b0; omega
        have c31b1 : (a1 != 0) = false := bne_eq_false_iff_eq.mpr c31
        clear c31; replace H := Option.bind_eq_some_iff.mp H; obtain ⟨t141, A320, H⟩ := H
        replace H : (some (a1, Go.bits .and .i64 (Go.bits .and .i64 x5_1 1) t141, t132, t133)) = some (r1, r2, r3, r4) := H
        have A32 := A_ A320; clear A320
        simp only [Option.some.injEq, Prod.mk.injEq] at H
        obtain ⟨rfl, rfl, rfl, rfl⟩ := H
        go_wp2_with (first | ((with_reducible refine gate_callee (f := 58) rfl ?_); refine goesL_ (some 94) rfl rfl Try.func58 kr_ rfl #[.int .i64 a1] rfl q2_ ?_; (with_reducible refine (spec_l2Full.calls a1 t141 _ A32.out).mono ?_); rintro e w' ⟨rfl, ⟨nd, rfl⟩⟩; refine ⟨_, rfl, ?_⟩; (try (rw [drewN_self wr]; generalize hq_ : World.drewN wr _ = wr; have n0_ : Aside0 (wr.heap[gb130]? = some (.cells #[.int .i64 0, .int .i64 0] 25 (0, 0))) := ⟨by rw [← hq_]; exact (M.Lb BK130)⟩; have n1_ : Aside0 (IsS72 w0 wr g s0_0 t132 t133) := ⟨by rw [← hq_]; exact q6_⟩; have n2_ : Aside0 (KeepBut w wr g none) := ⟨by rw [← hq_]; exact q4_⟩; have n3_ : Aside0 (Below w0.heap.size w0 wr) := ⟨by rw [← hq_]; exact q3_⟩; clear BK130 HI0 HK HB hq_; have BK130 := n0_; have HI0 := n1_; have HK := n2_; have HB := n3_; clear n0_ n1_ n2_ n3_)); have hnb33 := NB130_0.out; have hnc33 := NB0_130.out; have hcz34_0 := c20_ BK130; have hcz34_1 := c21_ BK130; have hfz34_0 := blk_frozen BK130.out 0; have hfz34_1 := blk_frozen BK130.out 1))
        refine bodyPost_ret (results_cell_row rfl _ _ gb130 25 #[.int .i64 a1, .int .i64 (Go.bits .and .i64 (Go.bits .and .i64 x5_1 1) t141)] (0, 0) _ rfl (by (with_reducible repeat (first | refine blk_drewN ?_ _ | refine blk_drew ?_ | refine blk_alloc ?_ _)); refine blk_put (cs := #[.int .i64 a1, .int .i64 0]) ?_ 1 _ rfl; (with_reducible repeat (first | refine blk_drewN ?_ _ | refine blk_drew ?_ | refine blk_alloc ?_ _)); refine blk_put (cs := #[.int .i64 0, .int .i64 0]) ?_ 0 _ rfl; (with_reducible repeat (first | refine blk_drewN ?_ _ | refine blk_drew ?_ | refine blk_alloc ?_ _)); exact BK130.out) Try.underlying25 rfl kr_) rfl ?_
        exact ⟨by first | rfl | (simp [errW_none, errW_some] <;> rfl) | (simp only [← hji25]; first | rfl | (simp [errW_none, errW_some] <;> rfl)) | (simp [*, errW_none, errW_some] <;> rfl), q6_, q3_, q4_⟩
       ·rw [if_neg c31] at H
        have c31b0 : (a1 == 0) = false := beq_eq_false_iff_ne.mpr c31
        have c31b1 : (a1 != 0) = true := bne_iff_ne.mpr c31
        replace H := Option.bind_eq_some_iff.mp H; obtain ⟨t142, A350, H⟩ := H
        replace H : (some (a1, Go.bits .and .i64 x5_1 t142, t132, t133)) = some (r1, r2, r3, r4) := H
        have A35 := A_ A350; clear A350
        simp only [Option.some.injEq, Prod.mk.injEq] at H
        obtain ⟨rfl, rfl, rfl, rfl⟩ := H
        go_wp2_with (first | ((with_reducible refine gate_callee (f := 58) rfl ?_); refine goesL_ (some 94) rfl rfl Try.func58 kr_ rfl #[.int .i64 a1] rfl q2_ ?_; (with_reducible refine (spec_l2Full.calls a1 t142 _ A35.out).mono ?_); rintro e w' ⟨rfl, ⟨nd, rfl⟩⟩; refine ⟨_, rfl, ?_⟩; (try (rw [drewN_self wr]; generalize hq_ : World.drewN wr _ = wr; have n0_ : Aside0 (wr.heap[gb130]? = some (.cells #[.int .i64 0, .int .i64 0] 25 (0, 0))) := ⟨by rw [← hq_]; exact (M.Lb BK130)⟩; have n1_ : Aside0 (IsS72 w0 wr g s0_0 t132 t133) := ⟨by rw [← hq_]; exact q6_⟩; have n2_ : Aside0 (KeepBut w wr g none) := ⟨by rw [← hq_]; exact q4_⟩; have n3_ : Aside0 (Below w0.heap.size w0 wr) := ⟨by rw [← hq_]; exact q3_⟩; clear BK130 HI0 HK HB hq_; have BK130 := n0_; have HI0 := n1_; have HK := n2_; have HB := n3_; clear n0_ n1_ n2_ n3_)); have hnb36 := NB130_0.out; have hnc36 := NB0_130.out; have hcz37_0 := c20_ BK130; have hcz37_1 := c21_ BK130; have hfz37_0 := blk_frozen BK130.out 0; have hfz37_1 := blk_frozen BK130.out 1))
        refine bodyPost_ret (results_cell_row rfl _ _ gb130 25 #[.int .i64 a1, .int .i64 (Go.bits .and .i64 x5_1 t142)] (0, 0) _ rfl (by (with_reducible repeat (first | refine blk_drewN ?_ _ | refine blk_drew ?_ | refine blk_alloc ?_ _)); refine blk_put (cs := #[.int .i64 a1, .int .i64 0]) ?_ 1 _ rfl; (with_reducible repeat (first | refine blk_drewN ?_ _ | refine blk_drew ?_ | refine blk_alloc ?_ _)); refine blk_put (cs := #[.int .i64 0, .int .i64 0]) ?_ 0 _ rfl; (with_reducible repeat (first | refine blk_drewN ?_ _ | refine blk_drew ?_ | refine blk_alloc ?_ _)); exact BK130.out) Try.underlying25 rfl kr_) rfl ?_
        exact ⟨by first | rfl | (simp [errW_none, errW_some] <;> rfl) | (simp only [← hji25]; first | rfl | (simp [errW_none, errW_some] <;> rfl)) | (simp [*, errW_none, errW_some] <;> rfl), q6_, q3_, q4_⟩
     ·rw [if_neg c24] at H
      exact absurd H (by simp)
  ·rw [if_neg c21] at H
   have c21b0 : (t131 == 1) = false := beq_eq_false_iff_ne.mpr c21
   have c21b1 : (t131 != 1) = true := bne_iff_ne.mpr c21
   by_cases c38 : t131 = 2
   ·rw [if_pos c38] at H
    have c38b0 : (t131 == 2) = true := beq_iff_eq.mpr c38
    have c38b1 : (t131 != 2) = false := bne_eq_false_iff_eq.mpr c38
    clear c38
    have H' := A_ H
    clear H
    go_enter Try.func70, Try.ntmps70
    go_wp2_with (first | ((with_reducible refine gate_dst (N := 4) rfl ?_); refine box_event ?hg (N := 4) ?hd (cs := #[.int .i64 0, .int .i64 0]) (t := 25) ?hr ?_; (case hd => rfl); (case hg => rfl); (case hr => first | (go_simp; done) | (go_simp; rfl)); intro gb130 hg w39 hbox hb; replace HB := A_ (below_step q3_ hb); have BK130 := A_ (hbox); have GW130 := A_ ((by rw [hg]; exact (keep_size (w := w) (g := g) (row := none) q4_) : w.heap.size ≤ gb130)); have GE130 := A_ ((Nat.le_trans HW0.out (by rw [hg]; exact (keep_size (w := w) (g := g) (row := none) q4_) : w.heap.size ≤ gb130) : w0.heap.size ≤ gb130)); replace HK := A_ (KeepBut.trans (w := w) q4_ (KeepBut.of_below hb g none) (.inl rfl)); have NB0_130 := A_ ((by rw [hg]; exact Nat.ne_of_lt (IsS72.lt (show IsS72 w0 _ g s0_0 s0_1 s0_2 from q8_)) : g ≠ gb130)); have NB130_0 := A_ ((by rw [hg]; exact Nat.ne_of_gt (IsS72.lt (show IsS72 w0 _ g s0_0 s0_1 s0_2 from q8_)) : gb130 ≠ g)); replace HI0 := A_ (IsS72.below q8_ hb); clear hb hbox hg) | ((with_reducible refine gate_callee (f := 50) rfl ?_); refine goesL_ (some 12) rfl rfl Try.func50 kr_ rfl #[.pointer (some ⟨g, 0, none⟩), .int .i64 6] rfl q2_ ?_; (with_reducible refine (spec_l1Below.calls g s0_0 s0_1 s0_2 6 t131 t132 t133 w0 _ ?side1 ?side2 A3.out).mono ?_); (case side1 => exact q6_); (case side2 => exact q3_); rintro e w40 ⟨rfl, hi, hb, hk⟩; refine ⟨_, rfl, ?_⟩; replace BK130 := A_ (KeepBut.blk hk (g' := gb130) (o := .cells #[.int .i64 0, .int .i64 0] 25 (0, 0)) (M.Lb BK130) NB130_0.out (by simp)); replace HK := A_ (KeepBut.trans (w := w) q4_ hk (.inl rfl)); replace HB := A_ (hb); replace HI0 := A_ (hi); (try clear hb); (try clear hb2); (try clear hk); (try clear hi)))
    go_loopg [5, 7] k (fun kq v5 v7 w' => ∃ (x5_1 : Int) (x7_1 : Int), v5 = .int .i64 x5_1 ∧ v7 = .int .i64 x7_1 ∧ Aside0 (spec_l2Draw.l1 kq a1 x5_1 x7_1 s0_0 t132 t133 = some (r1, r2, r3, r4)) ∧ Aside0 (kq ≤ k) ∧ Aside0 (w'.heap[gb130]? = some (.cells #[.int .i64 0, .int .i64 0] 25 (0, 0))) ∧ Aside0 (IsS72 w0 w' g s0_0 t132 t133) ∧ Aside0 (KeepBut w w' g none) ∧ Aside0 (Below w0.heap.size w0 w'))
    case atStart => exact ⟨(0), (0), q1_, q1_, H', ⟨Nat.le_refl _⟩, ⟨M.Lb BK130⟩, ⟨q6_⟩, ⟨q4_⟩, ⟨q3_⟩⟩
    case round =>
     clear H'; (try clear c1); (try clear c2); (try clear p2); (try clear c3); (try clear c4); (try clear c4b0); (try clear c4b1); (try clear c5); (try clear c6); (try clear p6); (try clear c7); (try clear c8); (try clear c8b0); (try clear c8b1); (try clear c13); (try clear c19); (try clear c21); (try clear c21b0); (try clear c21b1); (try clear c24); (try clear c24b0); (try clear c24b1); (try clear c26); (try clear c26b0); (try clear c28); (try clear c28b0); (try clear c29); (try clear c29b0); (try clear c29b1); (try clear c31); (try clear c31b0); (try clear c31b1); (try clear c33); (try clear c36)
     (try clear c38); (try clear c38b0); (try clear c38b1); (try clear hcz14_0); (try clear hcz14_1); (try clear hcz20_0); (try clear hcz20_1); (try clear hcz34_0); (try clear hcz34_1); (try clear hcz37_0); (try clear hcz37_1); (try clear hfz14_0); (try clear hfz14_1); (try clear hfz20_0); (try clear hfz20_1); (try clear hfz34_0); (try clear hfz34_1); (try clear hfz37_0); (try clear hfz37_1); (try clear p2); obtain ⟨x5_1, x7_1, rfl, rfl, HA, HK1, BK130, HI0, HK, HB⟩ := hrel
     cases gk with
     | zero => exact absurd HA.out (by simp [spec_l2Draw.l1])
     | succ k1 =>
      have H := HA.out
      clear HA
      simp only [spec_l2Draw.l1] at H
      by_cases c41 : 0 ≤ a1
      ·rw [if_pos c41] at H
       have c41b0 := eq_true c41
       have c41b1 : decide (0 ≤ a1) = true := decide_eq_true c41
       clear c41
       obtain ⟨ji42, hji42⟩ : ∃ j_ : Int, (shl .i64 1 a1) = j_ := ⟨_, rfl⟩
       replace H : (if x7_1 < (ji42) then ((spec_l2Count.f k1 x7_1).bind fun t143 => (if (Int.tmod t143 2) = 1 then (if 0 ≤ x7_1 then (spec_l2Draw.l1 k1 a1 (Go.bits .or .i64 x5_1 (shl .i64 1 x7_1)) (wrap64 (x7_1 + 1)) s0_0 t132 t133) else (none)) else (spec_l2Draw.l1 k1 a1 x5_1 (wrap64 (x7_1 + 1)) s0_0 t132 t133))) else (if a1 = 0 then ((spec_l2Full.f a1).bind fun t144 => (some (a1, Go.bits .and .i64 (Go.bits .and .i64 x5_1 1) t144, t132, t133))) else ((spec_l2Full.f a1).bind fun t145 => (some (a1, Go.bits .and .i64 x5_1 t145, t132, t133))))) = some (r1, r2, r3, r4) := by first | (rw [hji42] at H; exact H) | (simp only [hji42] at H ⊢; exact H)
       have hji42_ : (IntKind.i64.wrap (1 * 2 ^ min a1.toNat 64)) = ji42 := hji42
       have hji42z : a1 ≤ 64 → (IntKind.i64.wrap (1 * 2 ^ a1.toNat)) = ji42 := shl_small hji42
       have hji42u : (IntKind.i64.wrap (2 ^ min a1.toNat 64)) = ji42 := by have h_ := hji42_; rw [Int.one_mul] at h_; exact h_
       have hji42v : a1 ≤ 64 → (IntKind.i64.wrap (2 ^ a1.toNat)) = ji42 := fun hle_ => by have h_ := hji42z hle_; rw [Int.one_mul] at h_; exact h_
       have hji42y : (wrap64 (1 * 2 ^ min a1.toNat 64)) = ji42 := (i64_w _).symm.trans hji42_
       have hji42x : a1 ≤ 64 → (wrap64 (1 * 2 ^ a1.toNat)) = ji42 := fun h_ => (i64_w _).symm.trans (hji42z h_)
       have hji42q : a1 ≤ 64 → (wrap64 (2 ^ a1.toNat)) = ji42 := fun h_ => (i64_w _).symm.trans (hji42v h_)
       have hji42p := (i64_w _).symm.trans hji42u
       by_cases c43 : x7_1 < (ji42)
       ·rw [if_pos c43] at H
        have c43b0 : decide (x7_1 < (ji42)) = true := decide_eq_true c43
        clear c43; replace H := Option.bind_eq_some_iff.mp H; obtain ⟨t143, A440, H⟩ := H; (try dsimp only at H); have A44 := A_ A440; clear A440
        by_cases c45 : (Int.tmod t143 2) = 1
        ·rw [if_pos c45] at H
         have c45b0 : ((Int.tmod t143 2) == 1) = true := beq_iff_eq.mpr c45
         have c45b1 : ((Int.tmod t143 2) != 1) = false := bne_eq_false_iff_eq.mpr c45
         clear c45
         by_cases c46 : 0 ≤ x7_1
         ·rw [if_pos c46] at H
          have c46b0 := eq_true c46
          have c46b1 : decide (0 ≤ x7_1) = true := decide_eq_true c46
          clear c46
          obtain ⟨ji47, hji47⟩ : ∃ j_ : Int, (shl .i64 1 x7_1) = j_ := ⟨_, rfl⟩
          replace H : (spec_l2Draw.l1 k1 a1 (Go.bits .or .i64 x5_1 (ji47)) (wrap64 (x7_1 + 1)) s0_0 t132 t133) = some (r1, r2, r3, r4) := by first | (rw [hji47] at H; exact H) | (simp only [hji47] at H ⊢; exact H)
          (try rw [hji47] at A44)
          have hji47_ : (IntKind.i64.wrap (1 * 2 ^ min x7_1.toNat 64)) = ji47 := hji47
          have hji47z : x7_1 ≤ 64 → (IntKind.i64.wrap (1 * 2 ^ x7_1.toNat)) = ji47 := shl_small hji47
          have hji47u : (IntKind.i64.wrap (2 ^ min x7_1.toNat 64)) = ji47 := by have h_ := hji47_; rw [Int.one_mul] at h_; exact h_
          have hji47v : x7_1 ≤ 64 → (IntKind.i64.wrap (2 ^ x7_1.toNat)) = ji47 := fun hle_ => by have h_ := hji47z hle_; rw [Int.one_mul] at h_; exact h_
          have hji47y : (wrap64 (1 * 2 ^ min x7_1.toNat 64)) = ji47 := (i64_w _).symm.trans hji47_
          have hji47x : x7_1 ≤ 64 → (wrap64 (1 * 2 ^ x7_1.toNat)) = ji47 := fun h_ => (i64_w _).symm.trans (hji47z h_)
          have hji47q : x7_1 ≤ 64 → (wrap64 (2 ^ x7_1.toNat)) = ji47 := fun h_ => (i64_w _).symm.trans (hji47v h_)
          have hji47p := (i64_w _).symm.trans hji47u
          have H' := A_ H
          clear H
          go_wp2_with (first | ((with_reducible refine gate_callee (f := 60) rfl ?_); refine goesL_ (some 59) rfl rfl Try.func60 kr_ rfl #[.int .i64 x7_1] rfl q2_ ?_; (with_reducible refine (spec_l2Count.calls k1 x7_1 t143 _ A44.out).mono ?_); rintro e w' ⟨rfl, ⟨nd, rfl⟩⟩; refine ⟨_, rfl, ?_⟩))
          go_roundg k1
          case measure => have := HK1.out; omega
          case rel => exact ⟨(Go.bits .or .i64 x5_1 (ji47)), (wrap64 (x7_1 + 1)), (by first | rfl | (simp; done) | (simp only [← hji47] <;> (first | rfl | simp)) | (simp [*]; done)), q1_, H', ⟨by have := HK1.out; omega⟩, ⟨M.Lb BK130⟩, ⟨q6_⟩, ⟨q4_⟩, ⟨q3_⟩⟩
         ·rw [if_neg c46] at H
          exact absurd H (by simp)
        ·rw [if_neg c45] at H
         have c45b0 : ((Int.tmod t143 2) == 1) = false := beq_eq_false_iff_ne.mpr c45
         have c45b1 : ((Int.tmod t143 2) != 1) = true := bne_iff_ne.mpr c45
         have H' := A_ H
         clear H
         go_wp2_with (first | ((with_reducible refine gate_callee (f := 60) rfl ?_); refine goesL_ (some 59) rfl rfl Try.func60 kr_ rfl #[.int .i64 x7_1] rfl q2_ ?_; (with_reducible refine (spec_l2Count.calls k1 x7_1 t143 _ A44.out).mono ?_); rintro e w' ⟨rfl, ⟨nd, rfl⟩⟩; refine ⟨_, rfl, ?_⟩))
         go_roundg k1
         case measure => have := HK1.out; omega
         case rel => exact ⟨(x5_1), (wrap64 (x7_1 + 1)), q1_, q1_, H', ⟨by have := HK1.out; omega⟩, ⟨M.Lb BK130⟩, ⟨q6_⟩, ⟨q4_⟩, ⟨q3_⟩⟩
       ·rw [if_neg c43] at H
        have c43b0 : decide (x7_1 < (ji42)) = false := decide_eq_false c43
        clear c43
        by_cases c48 : a1 = 0
        ·rw [if_pos c48] at H
         have c48b0 : (a1 == 0) = true := beq_iff_eq.mpr c48
         have c48z64 : a1 ≤ 64 := by have h_ := beq_iff_eq.mp c48b0; omega
         have c48b1 : (a1 != 0) = false := bne_eq_false_iff_eq.mpr c48
         clear c48; replace H := Option.bind_eq_some_iff.mp H; obtain ⟨t144, A490, H⟩ := H
         replace H : (some (a1, Go.bits .and .i64 (Go.bits .and .i64 x5_1 1) t144, t132, t133)) = some (r1, r2, r3, r4) := H
         have A49 := A_ A490; clear A490
         simp only [Option.some.injEq, Prod.mk.injEq] at H
         obtain ⟨rfl, rfl, rfl, rfl⟩ := H
         go_wp2_with (first | ((with_reducible refine gate_callee (f := 58) rfl ?_); refine goesL_ (some 94) rfl rfl Try.func58 kr_ rfl #[.int .i64 a1] rfl q2_ ?_; (with_reducible refine (spec_l2Full.calls a1 t144 _ A49.out).mono ?_); rintro e w' ⟨rfl, ⟨nd, rfl⟩⟩; refine ⟨_, rfl, ?_⟩; (try (rw [drewN_self wr]; generalize hq_ : World.drewN wr _ = wr; have n0_ : Aside0 (wr.heap[gb130]? = some (.cells #[.int .i64 0, .int .i64 0] 25 (0, 0))) := ⟨by rw [← hq_]; exact (M.Lb BK130)⟩; have n1_ : Aside0 (IsS72 w0 wr g s0_0 t132 t133) := ⟨by rw [← hq_]; exact q6_⟩; have n2_ : Aside0 (KeepBut w wr g none) := ⟨by rw [← hq_]; exact q4_⟩; have n3_ : Aside0 (Below w0.heap.size w0 wr) := ⟨by rw [← hq_]; exact q3_⟩; clear BK130 HI0 HK HB hq_; have BK130 := n0_; have HI0 := n1_; have HK := n2_; have HB := n3_; clear n0_ n1_ n2_ n3_)); have hnb50 := NB130_0.out; have hnc50 := NB0_130.out; have hcz51_0 := c20_ BK130; have hcz51_1 := c21_ BK130; have hfz51_0 := blk_frozen BK130.out 0; have hfz51_1 := blk_frozen BK130.out 1))
         refine bodyPost_ret (results_cell_row rfl _ _ gb130 25 #[.int .i64 a1, .int .i64 (Go.bits .and .i64 (Go.bits .and .i64 x5_1 1) t144)] (0, 0) _ rfl (by (with_reducible repeat (first | refine blk_drewN ?_ _ | refine blk_drew ?_ | refine blk_alloc ?_ _)); refine blk_put (cs := #[.int .i64 a1, .int .i64 0]) ?_ 1 _ rfl; (with_reducible repeat (first | refine blk_drewN ?_ _ | refine blk_drew ?_ | refine blk_alloc ?_ _)); refine blk_put (cs := #[.int .i64 0, .int .i64 0]) ?_ 0 _ rfl; (with_reducible repeat (first | refine blk_drewN ?_ _ | refine blk_drew ?_ | refine blk_alloc ?_ _)); exact BK130.out) Try.underlying25 rfl kr_) rfl ?_
         exact ⟨by first | rfl | (simp [errW_none, errW_some] <;> rfl) | (simp only [← hji42]; first | rfl | (simp [errW_none, errW_some] <;> rfl)) | (simp [*, errW_none, errW_some] <;> rfl), q6_, q3_, q4_⟩
        ·rw [if_neg c48] at H
         have c48b0 : (a1 == 0) = false := beq_eq_false_iff_ne.mpr c48
         have c48b1 : (a1 != 0) = true := bne_iff_ne.mpr c48
         replace H := Option.bind_eq_some_iff.mp H; obtain ⟨t145, A520, H⟩ := H
         replace H : (some (a1, Go.bits .and .i64 x5_1 t145, t132, t133)) = some (r1, r2, r3, r4) := H
         have A52 := A_ A520; clear A520
         simp only [Option.some.injEq, Prod.mk.injEq] at H
         obtain ⟨rfl, rfl, rfl, rfl⟩ := H
         go_wp2_with (first | ((with_reducible refine gate_callee (f := 58) rfl ?_); refine goesL_ (some 94) rfl rfl Try.func58 kr_ rfl #[.int .i64 a1] rfl q2_ ?_; (with_reducible refine (spec_l2Full.calls a1 t145 _ A52.out).mono ?_); rintro e w' ⟨rfl, ⟨nd, rfl⟩⟩; refine ⟨_, rfl, ?_⟩; (try (rw [drewN_self wr]; generalize hq_ : World.drewN wr _ = wr; have n0_ : Aside0 (wr.heap[gb130]? = some (.cells #[.int .i64 0, .int .i64 0] 25 (0, 0))) := ⟨by rw [← hq_]; exact (M.Lb BK130)⟩; have n1_ : Aside0 (IsS72 w0 wr g s0_0 t132 t133) := ⟨by rw [← hq_]; exact q6_⟩; have n2_ : Aside0 (KeepBut w wr g none) := ⟨by rw [← hq_]; exact q4_⟩; have n3_ : Aside0 (Below w0.heap.size w0 wr) := ⟨by rw [← hq_]; exact q3_⟩; clear BK130 HI0 HK HB hq_; have BK130 := n0_; have HI0 := n1_; have HK := n2_; have HB := n3_; clear n0_ n1_ n2_ n3_)); have hnb53 := NB130_0.out; have hnc53 := NB0_130.out; have hcz54_0 := c20_ BK130; have hcz54_1 := c21_ BK130; have hfz54_0 := blk_frozen BK130.out 0; have hfz54_1 := blk_frozen BK130.out 1))
         refine bodyPost_ret (results_cell_row rfl _ _ gb130 25 #[.int .i64 a1, .int .i64 (Go.bits .and .i64 x5_1 t145)] (0, 0) _ rfl (by (with_reducible repeat (first | refine blk_drewN ?_ _ | refine blk_drew ?_ | refine blk_alloc ?_ _)); refine blk_put (cs := #[.int .i64 a1, .int .i64 0]) ?_ 1 _ rfl; (with_reducible repeat (first | refine blk_drewN ?_ _ | refine blk_drew ?_ | refine blk_alloc ?_ _)); refine blk_put (cs := #[.int .i64 0, .int .i64 0]) ?_ 0 _ rfl; (with_reducible repeat (first | refine blk_drewN ?_ _ | refine blk_drew ?_ | refine blk_alloc ?_ _)); exact BK130.out) Try.underlying25 rfl kr_) rfl ?_
         exact ⟨by first | rfl | (simp [errW_none, errW_some] <;> rfl) | (simp only [← hji42]; first | rfl | (simp [errW_none, errW_some] <;> rfl)) | (simp [*, errW_none, errW_some] <;> rfl), q6_, q3_, q4_⟩
      ·rw [if_neg c41] at H
       exact absurd H (by simp)
   ·rw [if_neg c38] at H
    have c38b0 : (t131 == 2) = false := beq_eq_false_iff_ne.mpr c38
    have c38b1 : (t131 != 2) = true := bne_iff_ne.mpr c38
    by_cases c55 : t131 = 3
    ·rw [if_pos c55] at H
     have c55b0 : (t131 == 3) = true := beq_iff_eq.mpr c55
     have c55b1 : (t131 != 3) = false := bne_eq_false_iff_eq.mpr c55
     clear c55
     by_cases c56 : 0 ≤ a1
     ·rw [if_pos c56] at H
      have c56b0 := eq_true c56
      have c56b1 : decide (0 ≤ a1) = true := decide_eq_true c56
      clear c56
      obtain ⟨ji57, hji57⟩ : ∃ j_ : Int, (shl .i64 1 a1) = j_ := ⟨_, rfl⟩
      replace H : ((spec_l1Below.f s0_0 t132 t133 (ji57)).bind fun bt146 => (spec_l2Draw.l2 k a1 0 bt146.1 0 s0_0 bt146.2.1 bt146.2.2)) = some (r1, r2, r3, r4) := by first | (rw [hji57] at H; exact H) | (simp only [hji57] at H ⊢; exact H)
      (try rw [hji57] at A3)
      have hji57_ : (IntKind.i64.wrap (1 * 2 ^ min a1.toNat 64)) = ji57 := hji57
      have hji57z : a1 ≤ 64 → (IntKind.i64.wrap (1 * 2 ^ a1.toNat)) = ji57 := shl_small hji57
      have hji57u : (IntKind.i64.wrap (2 ^ min a1.toNat 64)) = ji57 := by have h_ := hji57_; rw [Int.one_mul] at h_; exact h_
      have hji57v : a1 ≤ 64 → (IntKind.i64.wrap (2 ^ a1.toNat)) = ji57 := fun hle_ => by have h_ := hji57z hle_; rw [Int.one_mul] at h_; exact h_
      have hji57y : (wrap64 (1 * 2 ^ min a1.toNat 64)) = ji57 := (i64_w _).symm.trans hji57_
      have hji57x : a1 ≤ 64 → (wrap64 (1 * 2 ^ a1.toNat)) = ji57 := fun h_ => (i64_w _).symm.trans (hji57z h_)
      have hji57q : a1 ≤ 64 → (wrap64 (2 ^ a1.toNat)) = ji57 := fun h_ => (i64_w _).symm.trans (hji57v h_)
      have hji57p := (i64_w _).symm.trans hji57u
      replace H := Option.bind_eq_some_iff.mp H; obtain ⟨⟨t146, t147, t148⟩, A580, H⟩ := H
      replace H : (spec_l2Draw.l2 k a1 0 t146 0 s0_0 t147 t148) = some (r1, r2, r3, r4) := H
      have A58 := A_ A580; clear A580
      have H' := A_ H
      clear H
      go_enter Try.func70, Try.ntmps70
      go_wp2_with (first | ((with_reducible refine gate_dst (N := 4) rfl ?_); refine box_event ?hg (N := 4) ?hd (cs := #[.int .i64 0, .int .i64 0]) (t := 25) ?hr ?_; (case hd => rfl); (case hg => rfl); (case hr => first | (go_simp; done) | (go_simp; rfl)); intro gb130 hg w59 hbox hb; replace HB := A_ (below_step q3_ hb); have BK130 := A_ (hbox); have GW130 := A_ ((by rw [hg]; exact (keep_size (w := w) (g := g) (row := none) q4_) : w.heap.size ≤ gb130)); have GE130 := A_ ((Nat.le_trans HW0.out (by rw [hg]; exact (keep_size (w := w) (g := g) (row := none) q4_) : w.heap.size ≤ gb130) : w0.heap.size ≤ gb130)); replace HK := A_ (KeepBut.trans (w := w) q4_ (KeepBut.of_below hb g none) (.inl rfl)); have NB0_130 := A_ ((by rw [hg]; exact Nat.ne_of_lt (IsS72.lt (show IsS72 w0 _ g s0_0 s0_1 s0_2 from q8_)) : g ≠ gb130)); have NB130_0 := A_ ((by rw [hg]; exact Nat.ne_of_gt (IsS72.lt (show IsS72 w0 _ g s0_0 s0_1 s0_2 from q8_)) : gb130 ≠ g)); replace HI0 := A_ (IsS72.below q8_ hb); clear hb hbox hg) | ((with_reducible refine gate_callee (f := 50) rfl ?_); refine goesL_ (some 12) rfl rfl Try.func50 kr_ rfl #[.pointer (some ⟨g, 0, none⟩), .int .i64 6] rfl q2_ ?_; (with_reducible refine (spec_l1Below.calls g s0_0 s0_1 s0_2 6 t131 t132 t133 w0 _ ?side1 ?side2 A3.out).mono ?_); (case side1 => exact q6_); (case side2 => exact q3_); rintro e w60 ⟨rfl, hi, hb, hk⟩; refine ⟨_, rfl, ?_⟩; replace BK130 := A_ (KeepBut.blk hk (g' := gb130) (o := .cells #[.int .i64 0, .int .i64 0] 25 (0, 0)) (M.Lb BK130) NB130_0.out (by simp)); replace HK := A_ (KeepBut.trans (w := w) q4_ hk (.inl rfl)); replace HB := A_ (hb); replace HI0 := A_ (hi); (try clear hb); (try clear hb2); (try clear hk); (try clear hi)) | ((with_reducible refine gate_callee (f := 50) rfl ?_); refine goesL_ (some 71) rfl rfl Try.func50 kr_ rfl #[.pointer (some ⟨g, 0, none⟩), .int .i64 ji57] rfl (by (try simp only [List.map_toArray, List.map_cons, List.map_nil]); first | done | (simp only [hji57]; rfl) | rfl | (simp only [List.length_drop, List.length_take]; rfl)) ?_; (with_reducible refine (spec_l1Below.calls g s0_0 t132 t133 ji57 t146 t147 t148 w0 _ ?side1 ?side2 A58.out).mono ?_); (case side1 => exact q6_); (case side2 => exact q3_); rintro e w61 ⟨rfl, hi, hb, hk⟩; refine ⟨_, rfl, ?_⟩; replace BK130 := A_ (KeepBut.blk hk (g' := gb130) (o := .cells #[.int .i64 0, .int .i64 0] 25 (0, 0)) (M.Lb BK130) NB130_0.out (by simp)); replace HK := A_ (KeepBut.trans (w := w) q4_ hk (.inl rfl)); replace HB := A_ (hb); replace HI0 := A_ (hi); (try clear hb); (try clear hb2); (try clear hk); (try clear hi)))
      go_loopg [5, 9] k (fun kq v5 v9 w' => ∃ (x5_1 : Int) (x9_1 : Int), v5 = .int .i64 x5_1 ∧ v9 = .int .i64 x9_1 ∧ Aside0 (spec_l2Draw.l2 kq a1 x5_1 t146 x9_1 s0_0 t147 t148 = some (r1, r2, r3, r4)) ∧ Aside0 (kq ≤ k) ∧ Aside0 (w'.heap[gb130]? = some (.cells #[.int .i64 0, .int .i64 0] 25 (0, 0))) ∧ Aside0 (IsS72 w0 w' g s0_0 t147 t148) ∧ Aside0 (KeepBut w w' g none) ∧ Aside0 (Below w0.heap.size w0 w'))
      case atStart => exact ⟨(0), (0), q1_, q1_, H', ⟨Nat.le_refl _⟩, ⟨M.Lb BK130⟩, ⟨q6_⟩, ⟨q4_⟩, ⟨q3_⟩⟩
      case round =>
       clear H'; (try clear c1); (try clear c2); (try clear p2); (try clear c3); (try clear c4); (try clear c4b0); (try clear c4b1); (try clear c5); (try clear c6); (try clear p6); (try clear c7); (try clear c8); (try clear c8b0); (try clear c8b1); (try clear c13); (try clear c19); (try clear c21); (try clear c21b0); (try clear c21b1); (try clear c24); (try clear c24b0); (try clear c24b1); (try clear c26); (try clear c26b0); (try clear c28); (try clear c28b0); (try clear c29); (try clear c29b0); (try clear c29b1); (try clear c31); (try clear c31b0); (try clear c31b1); (try clear c33); (try clear c36)
       (try clear c38); (try clear c38b0); (try clear c38b1); (try clear c41); (try clear c41b0); (try clear c41b1); (try clear c43); (try clear c43b0); (try clear c45); (try clear c45b0); (try clear c45b1); (try clear c46); (try clear c46b0); (try clear c46b1); (try clear c48); (try clear c48b0); (try clear c48b1); (try clear c50); (try clear c53); (try clear c55); (try clear c55b0); (try clear c55b1); (try clear c56); (try clear c56b0); (try clear c56b1); (try clear c58); (try clear c60); (try clear c61); (try clear hcz14_0); (try clear hcz14_1); (try clear hcz20_0); (try clear hcz20_1)
       (try clear hcz34_0); (try clear hcz34_1); (try clear hcz37_0); (try clear hcz37_1); (try clear hcz51_0); (try clear hcz51_1); (try clear hcz54_0); (try clear hcz54_1); (try clear hfz14_0); (try clear hfz14_1); (try clear hfz20_0); (try clear hfz20_1); (try clear hfz34_0); (try clear hfz34_1); (try clear hfz37_0); (try clear hfz37_1); (try clear hfz51_0); (try clear hfz51_1); (try clear hfz54_0); (try clear hfz54_1); (try clear p2); (try clear p6); obtain ⟨x5_1, x9_1, rfl, rfl, HA, HK1, BK130, HI0, HK, HB⟩ := hrel
       cases gk with
       | zero => exact absurd HA.out (by simp [spec_l2Draw.l2])
       | succ k1 =>
        have H := HA.out
        clear HA
        simp only [spec_l2Draw.l2] at H
        by_cases c62 : 0 ≤ a1
        ·rw [if_pos c62] at H
         have c62b0 := eq_true c62
         have c62b1 : decide (0 ≤ a1) = true := decide_eq_true c62
         clear c62
         obtain ⟨ji63, hji63⟩ : ∃ j_ : Int, (shl .i64 1 a1) = j_ := ⟨_, rfl⟩
         replace H : (if x9_1 < (ji63) then (if (Go.bits .and .i64 x9_1 t146) = t146 then (if 0 ≤ x9_1 then (spec_l2Draw.l2 k1 a1 (Go.bits .or .i64 x5_1 (shl .i64 1 x9_1)) t146 (wrap64 (x9_1 + 1)) s0_0 t147 t148) else (none)) else (spec_l2Draw.l2 k1 a1 x5_1 t146 (wrap64 (x9_1 + 1)) s0_0 t147 t148)) else (if a1 = 0 then ((spec_l2Full.f a1).bind fun t149 => (some (a1, Go.bits .and .i64 (Go.bits .and .i64 x5_1 1) t149, t147, t148))) else ((spec_l2Full.f a1).bind fun t150 => (some (a1, Go.bits .and .i64 x5_1 t150, t147, t148))))) = some (r1, r2, r3, r4) := by first | (rw [hji63] at H; exact H) | (simp only [hji63] at H ⊢; exact H)
         have hji63_ : (IntKind.i64.wrap (1 * 2 ^ min a1.toNat 64)) = ji63 := hji63
         have hji63z : a1 ≤ 64 → (IntKind.i64.wrap (1 * 2 ^ a1.toNat)) = ji63 := shl_small hji63
         have hji63u : (IntKind.i64.wrap (2 ^ min a1.toNat 64)) = ji63 := by have h_ := hji63_; rw [Int.one_mul] at h_; exact h_
         have hji63v : a1 ≤ 64 → (IntKind.i64.wrap (2 ^ a1.toNat)) = ji63 := fun hle_ => by have h_ := hji63z hle_; rw [Int.one_mul] at h_; exact h_
         have hji63y : (wrap64 (1 * 2 ^ min a1.toNat 64)) = ji63 := (i64_w _).symm.trans hji63_
         have hji63x : a1 ≤ 64 → (wrap64 (1 * 2 ^ a1.toNat)) = ji63 := fun h_ => (i64_w _).symm.trans (hji63z h_)
         have hji63q : a1 ≤ 64 → (wrap64 (2 ^ a1.toNat)) = ji63 := fun h_ => (i64_w _).symm.trans (hji63v h_)
         have hji63p := (i64_w _).symm.trans hji63u
         (try obtain rfl : ji63 = ji57 := hji63.symm.trans hji57)
         by_cases c64 : x9_1 < (ji63)
         ·rw [if_pos c64] at H
          have c64b0 : decide (x9_1 < (ji63)) = true := decide_eq_true c64
          clear c64
          by_cases c65 : (Go.bits .and .i64 x9_1 t146) = t146
          ·rw [if_pos c65] at H
           have c65b0 : ((Go.bits .and .i64 x9_1 t146) == t146) = true := beq_iff_eq.mpr c65
           have c65b1 : ((Go.bits .and .i64 x9_1 t146) != t146) = false := bne_eq_false_iff_eq.mpr c65
           clear c65
           by_cases c66 : 0 ≤ x9_1
           ·rw [if_pos c66] at H
            have c66b0 := eq_true c66
            have c66b1 : decide (0 ≤ x9_1) = true := decide_eq_true c66
            clear c66
            obtain ⟨ji67, hji67⟩ : ∃ j_ : Int, (shl .i64 1 x9_1) = j_ := ⟨_, rfl⟩
            replace H : (spec_l2Draw.l2 k1 a1 (Go.bits .or .i64 x5_1 (ji67)) t146 (wrap64 (x9_1 + 1)) s0_0 t147 t148) = some (r1, r2, r3, r4) := by first | (rw [hji67] at H; exact H) | (simp only [hji67] at H ⊢; exact H)
            have hji67_ : (IntKind.i64.wrap (1 * 2 ^ min x9_1.toNat 64)) = ji67 := hji67
            have hji67z : x9_1 ≤ 64 → (IntKind.i64.wrap (1 * 2 ^ x9_1.toNat)) = ji67 := shl_small hji67
            have hji67u : (IntKind.i64.wrap (2 ^ min x9_1.toNat 64)) = ji67 := by have h_ := hji67_; rw [Int.one_mul] at h_; exact h_
            have hji67v : x9_1 ≤ 64 → (IntKind.i64.wrap (2 ^ x9_1.toNat)) = ji67 := fun hle_ => by have h_ := hji67z hle_; rw [Int.one_mul] at h_; exact h_
            have hji67y : (wrap64 (1 * 2 ^ min x9_1.toNat 64)) = ji67 := (i64_w _).symm.trans hji67_
            have hji67x : x9_1 ≤ 64 → (wrap64 (1 * 2 ^ x9_1.toNat)) = ji67 := fun h_ => (i64_w _).symm.trans (hji67z h_)
            have hji67q : x9_1 ≤ 64 → (wrap64 (2 ^ x9_1.toNat)) = ji67 := fun h_ => (i64_w _).symm.trans (hji67v h_)
            have hji67p := (i64_w _).symm.trans hji67u
            have H' := A_ H
            clear H
            go_wp2
            go_roundg k1
            case measure => have := HK1.out; omega
            case rel => exact ⟨(Go.bits .or .i64 x5_1 (ji67)), (wrap64 (x9_1 + 1)), (by first | rfl | (simp; done) | (simp only [← hji67] <;> (first | rfl | simp)) | (simp [*]; done)), q1_, H', ⟨by have := HK1.out; omega⟩, ⟨M.Lb BK130⟩, ⟨q6_⟩, ⟨q4_⟩, ⟨q3_⟩⟩
           ·rw [if_neg c66] at H
            exact absurd H (by simp)
          ·rw [if_neg c65] at H
           have c65b0 : ((Go.bits .and .i64 x9_1 t146) == t146) = false := beq_eq_false_iff_ne.mpr c65
           have c65b1 : ((Go.bits .and .i64 x9_1 t146) != t146) = true := bne_iff_ne.mpr c65
           have H' := A_ H
           clear H
           go_wp2
           go_roundg k1
           case measure => have := HK1.out; omega
           case rel => exact ⟨(x5_1), (wrap64 (x9_1 + 1)), q1_, q1_, H', ⟨by have := HK1.out; omega⟩, ⟨M.Lb BK130⟩, ⟨q6_⟩, ⟨q4_⟩, ⟨q3_⟩⟩
         ·rw [if_neg c64] at H
          have c64b0 : decide (x9_1 < (ji63)) = false := decide_eq_false c64
          clear c64
          by_cases c68 : a1 = 0
          ·rw [if_pos c68] at H
           have c68b0 : (a1 == 0) = true := beq_iff_eq.mpr c68
           have c68z64 : a1 ≤ 64 := by have h_ := beq_iff_eq.mp c68b0; omega
           have c68b1 : (a1 != 0) = false := bne_eq_false_iff_eq.mpr c68
           clear c68; replace H := Option.bind_eq_some_iff.mp H; obtain ⟨t149, A690, H⟩ := H
           replace H : (some (a1, Go.bits .and .i64 (Go.bits .and .i64 x5_1 1) t149, t147, t148)) = some (r1, r2, r3, r4) := H
           have A69 := A_ A690; clear A690
           simp only [Option.some.injEq, Prod.mk.injEq] at H
           obtain ⟨rfl, rfl, rfl, rfl⟩ := H
           go_wp2_with (first | ((with_reducible refine gate_callee (f := 58) rfl ?_); refine goesL_ (some 94) rfl rfl Try.func58 kr_ rfl #[.int .i64 a1] rfl q2_ ?_; (with_reducible refine (spec_l2Full.calls a1 t149 _ A69.out).mono ?_); rintro e w' ⟨rfl, ⟨nd, rfl⟩⟩; refine ⟨_, rfl, ?_⟩; (try (rw [drewN_self wr]; generalize hq_ : World.drewN wr _ = wr; have n0_ : Aside0 (wr.heap[gb130]? = some (.cells #[.int .i64 0, .int .i64 0] 25 (0, 0))) := ⟨by rw [← hq_]; exact (M.Lb BK130)⟩; have n1_ : Aside0 (IsS72 w0 wr g s0_0 t147 t148) := ⟨by rw [← hq_]; exact q6_⟩; have n2_ : Aside0 (KeepBut w wr g none) := ⟨by rw [← hq_]; exact q4_⟩; have n3_ : Aside0 (Below w0.heap.size w0 wr) := ⟨by rw [← hq_]; exact q3_⟩; clear BK130 HI0 HK HB hq_; have BK130 := n0_; have HI0 := n1_; have HK := n2_; have HB := n3_; clear n0_ n1_ n2_ n3_)); have hnb70 := NB130_0.out; have hnc70 := NB0_130.out; have hcz71_0 := c20_ BK130; have hcz71_1 := c21_ BK130; have hfz71_0 := blk_frozen BK130.out 0; have hfz71_1 := blk_frozen BK130.out 1))
           refine bodyPost_ret (results_cell_row rfl _ _ gb130 25 #[.int .i64 a1, .int .i64 (Go.bits .and .i64 (Go.bits .and .i64 x5_1 1) t149)] (0, 0) _ rfl (by (with_reducible repeat (first | refine blk_drewN ?_ _ | refine blk_drew ?_ | refine blk_alloc ?_ _)); refine blk_put (cs := #[.int .i64 a1, .int .i64 0]) ?_ 1 _ rfl; (with_reducible repeat (first | refine blk_drewN ?_ _ | refine blk_drew ?_ | refine blk_alloc ?_ _)); refine blk_put (cs := #[.int .i64 0, .int .i64 0]) ?_ 0 _ rfl; (with_reducible repeat (first | refine blk_drewN ?_ _ | refine blk_drew ?_ | refine blk_alloc ?_ _)); exact BK130.out) Try.underlying25 rfl kr_) rfl ?_
           exact ⟨by first | rfl | (simp [errW_none, errW_some] <;> rfl) | (simp only [← hji57, ← hji63]; first | rfl | (simp [errW_none, errW_some] <;> rfl)) | (simp [*, errW_none, errW_some] <;> rfl), q6_, q3_, q4_⟩
          ·rw [if_neg c68] at H
           have c68b0 : (a1 == 0) = false := beq_eq_false_iff_ne.mpr c68
           have c68b1 : (a1 != 0) = true := bne_iff_ne.mpr c68
           replace H := Option.bind_eq_some_iff.mp H; obtain ⟨t150, A720, H⟩ := H
           replace H : (some (a1, Go.bits .and .i64 x5_1 t150, t147, t148)) = some (r1, r2, r3, r4) := H
           have A72 := A_ A720; clear A720
           simp only [Option.some.injEq, Prod.mk.injEq] at H
           obtain ⟨rfl, rfl, rfl, rfl⟩ := H
           go_wp2_with (first | ((with_reducible refine gate_callee (f := 58) rfl ?_); refine goesL_ (some 94) rfl rfl Try.func58 kr_ rfl #[.int .i64 a1] rfl q2_ ?_; (with_reducible refine (spec_l2Full.calls a1 t150 _ A72.out).mono ?_); rintro e w' ⟨rfl, ⟨nd, rfl⟩⟩; refine ⟨_, rfl, ?_⟩; (try (rw [drewN_self wr]; generalize hq_ : World.drewN wr _ = wr; have n0_ : Aside0 (wr.heap[gb130]? = some (.cells #[.int .i64 0, .int .i64 0] 25 (0, 0))) := ⟨by rw [← hq_]; exact (M.Lb BK130)⟩; have n1_ : Aside0 (IsS72 w0 wr g s0_0 t147 t148) := ⟨by rw [← hq_]; exact q6_⟩; have n2_ : Aside0 (KeepBut w wr g none) := ⟨by rw [← hq_]; exact q4_⟩; have n3_ : Aside0 (Below w0.heap.size w0 wr) := ⟨by rw [← hq_]; exact q3_⟩; clear BK130 HI0 HK HB hq_; have BK130 := n0_; have HI0 := n1_; have HK := n2_; have HB := n3_; clear n0_ n1_ n2_ n3_)); have hnb73 := NB130_0.out; have hnc73 := NB0_130.out; have hcz74_0 := c20_ BK130; have hcz74_1 := c21_ BK130; have hfz74_0 := blk_frozen BK130.out 0; have hfz74_1 := blk_frozen BK130.out 1))
           refine bodyPost_ret (results_cell_row rfl _ _ gb130 25 #[.int .i64 a1, .int .i64 (Go.bits .and .i64 x5_1 t150)] (0, 0) _ rfl (by (with_reducible repeat (first | refine blk_drewN ?_ _ | refine blk_drew ?_ | refine blk_alloc ?_ _)); refine blk_put (cs := #[.int .i64 a1, .int .i64 0]) ?_ 1 _ rfl; (with_reducible repeat (first | refine blk_drewN ?_ _ | refine blk_drew ?_ | refine blk_alloc ?_ _)); refine blk_put (cs := #[.int .i64 0, .int .i64 0]) ?_ 0 _ rfl; (with_reducible repeat (first | refine blk_drewN ?_ _ | refine blk_drew ?_ | refine blk_alloc ?_ _)); exact BK130.out) Try.underlying25 rfl kr_) rfl ?_
           exact ⟨by first | rfl | (simp [errW_none, errW_some] <;> rfl) | (simp only [← hji57, ← hji63]; first | rfl | (simp [errW_none, errW_some] <;> rfl)) | (simp [*, errW_none, errW_some] <;> rfl), q6_, q3_, q4_⟩
        ·rw [if_neg c62] at H
         exact absurd H (by simp)
     ·rw [if_neg c56] at H
      exact absurd H (by simp)
    ·rw [if_neg c55] at H
     have c55b0 : (t131 == 3) = false := beq_eq_false_iff_ne.mpr c55
     have c55b1 : (t131 != 3) = true := bne_iff_ne.mpr c55
     have H' := A_ H
     clear H
     go_enter Try.func70, Try.ntmps70
     go_wp2_with (first | ((with_reducible refine gate_dst (N := 4) rfl ?_); refine box_event ?hg (N := 4) ?hd (cs := #[.int .i64 0, .int .i64 0]) (t := 25) ?hr ?_; (case hd => rfl); (case hg => rfl); (case hr => first | (go_simp; done) | (go_simp; rfl)); intro gb130 hg w75 hbox hb; replace HB := A_ (below_step q3_ hb); have BK130 := A_ (hbox); have GW130 := A_ ((by rw [hg]; exact (keep_size (w := w) (g := g) (row := none) q4_) : w.heap.size ≤ gb130)); have GE130 := A_ ((Nat.le_trans HW0.out (by rw [hg]; exact (keep_size (w := w) (g := g) (row := none) q4_) : w.heap.size ≤ gb130) : w0.heap.size ≤ gb130)); replace HK := A_ (KeepBut.trans (w := w) q4_ (KeepBut.of_below hb g none) (.inl rfl)); have NB0_130 := A_ ((by rw [hg]; exact Nat.ne_of_lt (IsS72.lt (show IsS72 w0 _ g s0_0 s0_1 s0_2 from q8_)) : g ≠ gb130)); have NB130_0 := A_ ((by rw [hg]; exact Nat.ne_of_gt (IsS72.lt (show IsS72 w0 _ g s0_0 s0_1 s0_2 from q8_)) : gb130 ≠ g)); replace HI0 := A_ (IsS72.below q8_ hb); clear hb hbox hg) | ((with_reducible refine gate_callee (f := 50) rfl ?_); refine goesL_ (some 12) rfl rfl Try.func50 kr_ rfl #[.pointer (some ⟨g, 0, none⟩), .int .i64 6] rfl q2_ ?_; (with_reducible refine (spec_l1Below.calls g s0_0 s0_1 s0_2 6 t131 t132 t133 w0 _ ?side1 ?side2 A3.out).mono ?_); (case side1 => exact q6_); (case side2 => exact q3_); rintro e w76 ⟨rfl, hi, hb, hk⟩; refine ⟨_, rfl, ?_⟩; replace BK130 := A_ (KeepBut.blk hk (g' := gb130) (o := .cells #[.int .i64 0, .int .i64 0] 25 (0, 0)) (M.Lb BK130) NB130_0.out (by simp)); replace HK := A_ (KeepBut.trans (w := w) q4_ hk (.inl rfl)); replace HB := A_ (hb); replace HI0 := A_ (hi); (try clear hb); (try clear hb2); (try clear hk); (try clear hi)))
     go_loopg [5, 10] k (fun kq v5 v10 w' => ∃ (x5_1 : Int) (x10_1 : Int) (x1001_1 : Int) (x1002_1 : Int), v5 = .int .i64 x5_1 ∧ v10 = .int .i64 x10_1 ∧ Aside0 (spec_l2Draw.l3 kq a1 x5_1 x10_1 s0_0 x1001_1 x1002_1 = some (r1, r2, r3, r4)) ∧ Aside0 (kq ≤ k) ∧ Aside0 (w'.heap[gb130]? = some (.cells #[.int .i64 0, .int .i64 0] 25 (0, 0))) ∧ Aside0 (IsS72 w0 w' g s0_0 x1001_1 x1002_1) ∧ Aside0 (KeepBut w w' g none) ∧ Aside0 (Below w0.heap.size w0 w'))
     case atStart => exact ⟨(0), (0), (t132), (t133), q1_, q1_, H', ⟨Nat.le_refl _⟩, ⟨M.Lb BK130⟩, ⟨q6_⟩, ⟨q4_⟩, ⟨q3_⟩⟩
     case round =>
      clear H'; (try clear c1); (try clear c2); (try clear p2); (try clear c3); (try clear c4); (try clear c4b0); (try clear c4b1); (try clear c5); (try clear c6); (try clear p6); (try clear c7); (try clear c8); (try clear c8b0); (try clear c8b1); (try clear c13); (try clear c19); (try clear c21); (try clear c21b0); (try clear c21b1); (try clear c24); (try clear c24b0); (try clear c24b1); (try clear c26); (try clear c26b0); (try clear c28); (try clear c28b0); (try clear c29); (try clear c29b0); (try clear c29b1); (try clear c31); (try clear c31b0); (try clear c31b1); (try clear c33); (try clear c36)
      (try clear c38); (try clear c38b0); (try clear c38b1); (try clear c41); (try clear c41b0); (try clear c41b1); (try clear c43); (try clear c43b0); (try clear c45); (try clear c45b0); (try clear c45b1); (try clear c46); (try clear c46b0); (try clear c46b1); (try clear c48); (try clear c48b0); (try clear c48b1); (try clear c50); (try clear c53); (try clear c55); (try clear c55b0); (try clear c55b1); (try clear c56); (try clear c56b0); (try clear c56b1); (try clear c58); (try clear c60); (try clear c61); (try clear c62); (try clear c62b0); (try clear c62b1); (try clear c64); (try clear c64b0)
      (try clear p64); (try clear c65); (try clear c65b0); (try clear c65b1); (try clear c66); (try clear c66b0); (try clear c66b1); (try clear c68); (try clear c68b0); (try clear c68b1); (try clear c70); (try clear c73); (try clear hcz14_0); (try clear hcz14_1); (try clear hcz20_0); (try clear hcz20_1); (try clear hcz34_0); (try clear hcz34_1); (try clear hcz37_0); (try clear hcz37_1); (try clear hcz51_0); (try clear hcz51_1); (try clear hcz54_0); (try clear hcz54_1); (try clear hcz71_0); (try clear hcz71_1); (try clear hcz74_0); (try clear hcz74_1); (try clear hfz14_0); (try clear hfz14_1)
      (try clear hfz20_0); (try clear hfz20_1); (try clear hfz34_0); (try clear hfz34_1); (try clear hfz37_0); (try clear hfz37_1); (try clear hfz51_0); (try clear hfz51_1); (try clear hfz54_0); (try clear hfz54_1); (try clear hfz71_0); (try clear hfz71_1); (try clear hfz74_0); (try clear hfz74_1); (try clear p2); (try clear p6); obtain ⟨x5_1, x10_1, x1001_1, x1002_1, rfl, rfl, HA, HK1, BK130, HI0, HK, HB⟩ := hrel
      cases gk with
      | zero => exact absurd HA.out (by simp [spec_l2Draw.l3])
      | succ k1 =>
       have H := HA.out
       clear HA
       simp only [spec_l2Draw.l3] at H
       by_cases c77 : 0 ≤ a1
       ·rw [if_pos c77] at H
        have c77b0 := eq_true c77
        have c77b1 : decide (0 ≤ a1) = true := decide_eq_true c77
        clear c77
        obtain ⟨ji78, hji78⟩ : ∃ j_ : Int, (shl .i64 1 a1) = j_ := ⟨_, rfl⟩
        replace H : (if x10_1 < (ji78) then ((spec_l1Below.f s0_0 x1001_1 x1002_1 2).bind fun bt151 => (if 0 ≤ x10_1 then (spec_l2Draw.l3 k1 a1 (Go.bits .or .i64 x5_1 (shl .i64 bt151.1 x10_1)) (wrap64 (x10_1 + 1)) s0_0 bt151.2.1 bt151.2.2) else (none))) else (if a1 = 0 then ((spec_l2Full.f a1).bind fun t154 => (some (a1, Go.bits .and .i64 (Go.bits .and .i64 x5_1 1) t154, x1001_1, x1002_1))) else ((spec_l2Full.f a1).bind fun t155 => (some (a1, Go.bits .and .i64 x5_1 t155, x1001_1, x1002_1))))) = some (r1, r2, r3, r4) := by first | (rw [hji78] at H; exact H) | (simp only [hji78] at H ⊢; exact H)
        have hji78_ : (IntKind.i64.wrap (1 * 2 ^ min a1.toNat 64)) = ji78 := hji78
        have hji78z : a1 ≤ 64 → (IntKind.i64.wrap (1 * 2 ^ a1.toNat)) = ji78 := shl_small hji78
        have hji78u : (IntKind.i64.wrap (2 ^ min a1.toNat 64)) = ji78 := by have h_ := hji78_; rw [Int.one_mul] at h_; exact h_
        have hji78v : a1 ≤ 64 → (IntKind.i64.wrap (2 ^ a1.toNat)) = ji78 := fun hle_ => by have h_ := hji78z hle_; rw [Int.one_mul] at h_; exact h_
        have hji78y : (wrap64 (1 * 2 ^ min a1.toNat 64)) = ji78 := (i64_w _).symm.trans hji78_
        have hji78x : a1 ≤ 64 → (wrap64 (1 * 2 ^ a1.toNat)) = ji78 := fun h_ => (i64_w _).symm.trans (hji78z h_)
        have hji78q : a1 ≤ 64 → (wrap64 (2 ^ a1.toNat)) = ji78 := fun h_ => (i64_w _).symm.trans (hji78v h_)
        have hji78p := (i64_w _).symm.trans hji78u
        by_cases c79 : x10_1 < (ji78)
        ·rw [if_pos c79] at H
         have c79b0 : decide (x10_1 < (ji78)) = true := decide_eq_true c79
         clear c79; replace H := Option.bind_eq_some_iff.mp H; obtain ⟨⟨t151, t152, t153⟩, A800, H⟩ := H; (try dsimp only at H); have A80 := A_ A800; clear A800
         by_cases c81 : 0 ≤ x10_1
         ·rw [if_pos c81] at H
          have c81b0 := eq_true c81
          have c81b1 : decide (0 ≤ x10_1) = true := decide_eq_true c81
          clear c81
          obtain ⟨ji82, hji82⟩ : ∃ j_ : Int, (shl .i64 t151 x10_1) = j_ := ⟨_, rfl⟩
          replace H : (spec_l2Draw.l3 k1 a1 (Go.bits .or .i64 x5_1 (ji82)) (wrap64 (x10_1 + 1)) s0_0 t152 t153) = some (r1, r2, r3, r4) := by first | (rw [hji82] at H; exact H) | (simp only [hji82] at H ⊢; exact H)
          (try rw [hji82] at A80)
          have hji82_ : (IntKind.i64.wrap (t151 * 2 ^ min x10_1.toNat 64)) = ji82 := hji82
          have hji82z : x10_1 ≤ 64 → (IntKind.i64.wrap (t151 * 2 ^ x10_1.toNat)) = ji82 := shl_small hji82
          have hji82y : (wrap64 (t151 * 2 ^ min x10_1.toNat 64)) = ji82 := (i64_w _).symm.trans hji82_
          have hji82x : x10_1 ≤ 64 → (wrap64 (t151 * 2 ^ x10_1.toNat)) = ji82 := fun h_ => (i64_w _).symm.trans (hji82z h_)
          have H' := A_ H
          clear H
          go_wp2_with (first | ((with_reducible refine gate_callee (f := 50) rfl ?_); refine goesL_ (some 21) rfl rfl Try.func50 kr_ rfl #[.pointer (some ⟨g, 0, none⟩), .int .i64 2] rfl q2_ ?_; (with_reducible refine (spec_l1Below.calls g s0_0 x1001_1 x1002_1 2 t151 t152 t153 w0 _ ?side1 ?side2 A80.out).mono ?_); (case side1 => exact q6_); (case side2 => exact q3_); rintro e w83 ⟨rfl, hi, hb, hk⟩; refine ⟨_, rfl, ?_⟩; replace BK130 := A_ (KeepBut.blk hk (g' := gb130) (o := .cells #[.int .i64 0, .int .i64 0] 25 (0, 0)) (M.Lb BK130) NB130_0.out (by simp)); replace HK := A_ (KeepBut.trans (w := w) q4_ hk (.inl rfl)); replace HB := A_ (hb); replace HI0 := A_ (hi); (try clear hb); (try clear hb2); (try clear hk); (try clear hi)))
          go_roundg k1
          case measure => have := HK1.out; omega
          case rel => exact ⟨(Go.bits .or .i64 x5_1 (ji82)), (wrap64 (x10_1 + 1)), (t152), (t153), (by first | rfl | (simp; done) | (simp only [← hji82] <;> (first | rfl | simp)) | (simp [*]; done)), q1_, H', ⟨by have := HK1.out; omega⟩, ⟨M.Lb BK130⟩, ⟨q6_⟩, ⟨q4_⟩, ⟨q3_⟩⟩
         ·rw [if_neg c81] at H
          exact absurd H (by simp)
        ·rw [if_neg c79] at H
         have c79b0 : decide (x10_1 < (ji78)) = false := decide_eq_false c79
         clear c79
         by_cases c84 : a1 = 0
         ·rw [if_pos c84] at H
          have c84b0 : (a1 == 0) = true := beq_iff_eq.mpr c84
          have c84z64 : a1 ≤ 64 := by have h_ := beq_iff_eq.mp c84b0; omega
          have c84b1 : (a1 != 0) = false := bne_eq_false_iff_eq.mpr c84
          clear c84; replace H := Option.bind_eq_some_iff.mp H; obtain ⟨t154, A850, H⟩ := H; (try dsimp only at H); have A85 := A_ A850; clear A850
          simp only [Option.some.injEq, Prod.mk.injEq] at H
          obtain ⟨rfl, rfl, rfl, rfl⟩ := H
          go_wp2_with (first | ((with_reducible refine gate_callee (f := 58) rfl ?_); refine goesL_ (some 94) rfl rfl Try.func58 kr_ rfl #[.int .i64 a1] rfl q2_ ?_; (with_reducible refine (spec_l2Full.calls a1 t154 _ A85.out).mono ?_); rintro e w' ⟨rfl, ⟨nd, rfl⟩⟩; refine ⟨_, rfl, ?_⟩; (try (rw [drewN_self wr]; generalize hq_ : World.drewN wr _ = wr; have n0_ : Aside0 (wr.heap[gb130]? = some (.cells #[.int .i64 0, .int .i64 0] 25 (0, 0))) := ⟨by rw [← hq_]; exact (M.Lb BK130)⟩; have n1_ : Aside0 (IsS72 w0 wr g s0_0 x1001_1 x1002_1) := ⟨by rw [← hq_]; exact q6_⟩; have n2_ : Aside0 (KeepBut w wr g none) := ⟨by rw [← hq_]; exact q4_⟩; have n3_ : Aside0 (Below w0.heap.size w0 wr) := ⟨by rw [← hq_]; exact q3_⟩; clear BK130 HI0 HK HB hq_; have BK130 := n0_; have HI0 := n1_; have HK := n2_; have HB := n3_; clear n0_ n1_ n2_ n3_)); have hnb86 := NB130_0.out; have hnc86 := NB0_130.out; have hcz87_0 := c20_ BK130; have hcz87_1 := c21_ BK130; have hfz87_0 := blk_frozen BK130.out 0; have hfz87_1 := blk_frozen BK130.out 1))
          refine bodyPost_ret (results_cell_row rfl _ _ gb130 25 #[.int .i64 a1, .int .i64 (Go.bits .and .i64 (Go.bits .and .i64 x5_1 1) t154)] (0, 0) _ rfl (by (with_reducible repeat (first | refine blk_drewN ?_ _ | refine blk_drew ?_ | refine blk_alloc ?_ _)); refine blk_put (cs := #[.int .i64 a1, .int .i64 0]) ?_ 1 _ rfl; (with_reducible repeat (first | refine blk_drewN ?_ _ | refine blk_drew ?_ | refine blk_alloc ?_ _)); refine blk_put (cs := #[.int .i64 0, .int .i64 0]) ?_ 0 _ rfl; (with_reducible repeat (first | refine blk_drewN ?_ _ | refine blk_drew ?_ | refine blk_alloc ?_ _)); exact BK130.out) Try.underlying25 rfl kr_) rfl ?_
          exact ⟨by first | rfl | (simp [errW_none, errW_some] <;> rfl) | (simp only [← hji78]; first | rfl | (simp [errW_none, errW_some] <;> rfl)) | (simp [*, errW_none, errW_some] <;> rfl), q6_, q3_, q4_⟩
         ·rw [if_neg c84] at H
          have c84b0 : (a1 == 0) = false := beq_eq_false_iff_ne.mpr c84
          have c84b1 : (a1 != 0) = true := bne_iff_ne.mpr c84
          replace H := Option.bind_eq_some_iff.mp H; obtain ⟨t155, A880, H⟩ := H
          replace H : (some (a1, Go.bits .and .i64 x5_1 t155, x1001_1, x1002_1)) = some (r1, r2, r3, r4) := H
          have A88 := A_ A880; clear A880
          simp only [Option.some.injEq, Prod.mk.injEq] at H
          obtain ⟨rfl, rfl, rfl, rfl⟩ := H
          go_wp2_with (first | ((with_reducible refine gate_callee (f := 58) rfl ?_); refine goesL_ (some 94) rfl rfl Try.func58 kr_ rfl #[.int .i64 a1] rfl q2_ ?_; (with_reducible refine (spec_l2Full.calls a1 t155 _ A88.out).mono ?_); rintro e w' ⟨rfl, ⟨nd, rfl⟩⟩; refine ⟨_, rfl, ?_⟩; (try (rw [drewN_self wr]; generalize hq_ : World.drewN wr _ = wr; have n0_ : Aside0 (wr.heap[gb130]? = some (.cells #[.int .i64 0, .int .i64 0] 25 (0, 0))) := ⟨by rw [← hq_]; exact (M.Lb BK130)⟩; have n1_ : Aside0 (IsS72 w0 wr g s0_0 x1001_1 x1002_1) := ⟨by rw [← hq_]; exact q6_⟩; have n2_ : Aside0 (KeepBut w wr g none) := ⟨by rw [← hq_]; exact q4_⟩; have n3_ : Aside0 (Below w0.heap.size w0 wr) := ⟨by rw [← hq_]; exact q3_⟩; clear BK130 HI0 HK HB hq_; have BK130 := n0_; have HI0 := n1_; have HK := n2_; have HB := n3_; clear n0_ n1_ n2_ n3_)); have hnb89 := NB130_0.out; have hnc89 := NB0_130.out; have hcz90_0 := c20_ BK130; have hcz90_1 := c21_ BK130; have hfz90_0 := blk_frozen BK130.out 0; have hfz90_1 := blk_frozen BK130.out 1))
          refine bodyPost_ret (results_cell_row rfl _ _ gb130 25 #[.int .i64 a1, .int .i64 (Go.bits .and .i64 x5_1 t155)] (0, 0) _ rfl (by (with_reducible repeat (first | refine blk_drewN ?_ _ | refine blk_drew ?_ | refine blk_alloc ?_ _)); refine blk_put (cs := #[.int .i64 a1, .int .i64 0]) ?_ 1 _ rfl; (with_reducible repeat (first | refine blk_drewN ?_ _ | refine blk_drew ?_ | refine blk_alloc ?_ _)); refine blk_put (cs := #[.int .i64 0, .int .i64 0]) ?_ 0 _ rfl; (with_reducible repeat (first | refine blk_drewN ?_ _ | refine blk_drew ?_ | refine blk_alloc ?_ _)); exact BK130.out) Try.underlying25 rfl kr_) rfl ?_
          exact ⟨by first | rfl | (simp [errW_none, errW_some] <;> rfl) | (simp only [← hji78]; first | rfl | (simp [errW_none, errW_some] <;> rfl)) | (simp [*, errW_none, errW_some] <;> rfl), q6_, q3_, q4_⟩
       ·rw [if_neg c77] at H
        exact absurd H (by simp)
def spec_l2Any.f (k : Nat) (s0_0 : List Int) (s0_1 : Int) (s0_2 : Int) : Option (Int × Int × Int × Int) := (spec_l1Below.f s0_0 s0_1 s0_2 5).bind fun bt157 => ((spec_l2Draw.f k s0_0 bt157.2.1 bt157.2.2 bt157.1).bind fun bt160 => ((spec_l1Below.f s0_0 bt160.2.2.1 bt160.2.2.2 14).bind fun bt165 => (if bt165.1 = 0 then ((spec_l1PickInt.f s0_0 bt165.2.1 bt165.2.2 (([(-1), 6, 5, 0, 9223372036854775807] : List Int))).bind fun bt171 => (some (bt171.1, bt160.2.1, bt171.2.1, bt171.2.2))) else (if bt165.1 = 1 then ((spec_l1PickInt.f s0_0 bt165.2.1 bt165.2.2 (([(-1), 0, 1, 65536, 9223372036854775807] : List Int))).bind fun bt177 => (some (bt160.1, bt177.1, bt177.2.1, bt177.2.2))) else (some (bt160.1, bt160.2.1, bt165.2.1, bt165.2.2))))))
theorem spec_l2Any.calls (k : Nat) (g : Nat) (s0_0 : List Int) (s0_1 : Int) (s0_2 : Int) (r1 : Int) (r2 : Int) (r3 : Int) (r4 : Int) (w0 w : World) (hI : IsS72 w0 w g s0_0 s0_1 s0_2) (hB : Below w0.heap.size w0 w) (h : spec_l2Any.f k s0_0 s0_1 s0_2 = some (r1, r2, r3, r4)) :
  Calls Try.prog 54 #[.pointer (some ⟨g, 0, none⟩)] w fun e w' => e = .returned (.agg #[.int .i64 r1, .int .i64 r2]) ∧ IsS72 w0 w' g s0_0 r3 r4 ∧ Below w0.heap.size w0 w' ∧ KeepBut w w' g none := by
 have hu25 := Try.underlying25
 have HI0 := A_ hI
 have HK := A_ (KeepBut.refl w g none)
 have HL := A_ hB.size
 clear hI
 have HW0 := A_ hB.size
 have HB := A_ hB; clear hB
 have H : ((spec_l1Below.f s0_0 s0_1 s0_2 5).bind fun bt157 => ((spec_l2Draw.f k s0_0 bt157.2.1 bt157.2.2 bt157.1).bind fun bt160 => ((spec_l1Below.f s0_0 bt160.2.2.1 bt160.2.2.2 14).bind fun bt165 => (if bt165.1 = 0 then ((spec_l1PickInt.f s0_0 bt165.2.1 bt165.2.2 (([(-1), 6, 5, 0, 9223372036854775807] : List Int))).bind fun bt171 => (some (bt171.1, bt160.2.1, bt171.2.1, bt171.2.2))) else (if bt165.1 = 1 then ((spec_l1PickInt.f s0_0 bt165.2.1 bt165.2.2 (([(-1), 0, 1, 65536, 9223372036854775807] : List Int))).bind fun bt177 => (some (bt160.1, bt177.1, bt177.2.1, bt177.2.2))) else (some (bt160.1, bt160.2.1, bt165.2.1, bt165.2.2))))))) = some (r1, r2, r3, r4) := h
 clear h; replace H := Option.bind_eq_some_iff.mp H; obtain ⟨⟨t157, t158, t159⟩, A20, H⟩ := H; (try dsimp only at H); have A2 := A_ A20; clear A20; replace H := Option.bind_eq_some_iff.mp H; obtain ⟨⟨t160, t161, t162, t163⟩, A30, H⟩ := H; (try dsimp only at H); have A3 := A_ A30; clear A30; replace H := Option.bind_eq_some_iff.mp H; obtain ⟨⟨t165, t166, t167⟩, A40, H⟩ := H; (try dsimp only at H); have A4 := A_ A40; clear A40
 by_cases c5 : t165 = 0
 ·rw [if_pos c5] at H
  have c5b0 : (t165 == 0) = true := beq_iff_eq.mpr c5
  have c5b1 : (t165 != 0) = false := bne_eq_false_iff_eq.mpr c5
  clear c5
  obtain ⟨y168, hy168⟩ : ∃ y_ : List Int, y_ = (([(-1), 6, 5, 0, 9223372036854775807] : List Int)) := ⟨_, rfl⟩
  replace H : ((spec_l1PickInt.f s0_0 t166 t167 y168).bind fun bt171 => (some (bt171.1, t161, bt171.2.1, bt171.2.2))) = some (r1, r2, r3, r4) := by first | (rw [hy168]; with_reducible exact H) | (have H2_ := (Option.bind_some _ _).symm.trans H; rw [hy168]; with_reducible exact H2_) | (have H2_ := (Option.bind_some _ _).symm.trans H; with_reducible exact H2_) | with_reducible exact H | (rw [hy168]; exact H) | exact H
  have Ny168 := A_ hy168; clear hy168; replace H := Option.bind_eq_some_iff.mp H; obtain ⟨⟨t171, t172, t173⟩, A60, H⟩ := H
  replace H : (some (t171, t161, t172, t173)) = some (r1, r2, r3, r4) := H
  have A6 := A_ A60; clear A60
  simp only [Option.some.injEq, Prod.mk.injEq] at H
  obtain ⟨rfl, rfl, rfl, rfl⟩ := H
  go_enter Try.func54, Try.ntmps54
  go_wp2_with (first | ((with_reducible refine gate_dst (N := 2) rfl ?_); refine box_event ?hg (N := 2) ?hd (cs := #[.int .i64 0, .int .i64 0]) (t := 25) ?hr ?_; (case hd => rfl); (case hg => rfl); (case hr => first | (go_simp; done) | (go_simp; rfl)); intro gb156 hg w7 hbox hb; replace HB := A_ (below_step q3_ hb); have BK156 := A_ (hbox); have GW156 := A_ ((by rw [hg]; exact (keep_size (w := w) (g := g) (row := none) q4_) : w.heap.size ≤ gb156)); have GE156 := A_ ((Nat.le_trans HW0.out (by rw [hg]; exact (keep_size (w := w) (g := g) (row := none) q4_) : w.heap.size ≤ gb156) : w0.heap.size ≤ gb156)); replace HK := A_ (KeepBut.trans (w := w) q4_ (KeepBut.of_below hb g none) (.inl rfl)); have NB0_156 := A_ ((by rw [hg]; exact Nat.ne_of_lt (IsS72.lt (show IsS72 w0 _ g s0_0 s0_1 s0_2 from q8_)) : g ≠ gb156)); have NB156_0 := A_ ((by rw [hg]; exact Nat.ne_of_gt (IsS72.lt (show IsS72 w0 _ g s0_0 s0_1 s0_2 from q8_)) : gb156 ≠ g)); replace HI0 := A_ (IsS72.below q8_ hb); clear hb hbox hg) | ((with_reducible refine gate_callee (f := 50) rfl ?_); refine goesL_ (some 6) rfl rfl Try.func50 kr_ rfl #[.pointer (some ⟨g, 0, none⟩), .int .i64 5] rfl q2_ ?_; (with_reducible refine (spec_l1Below.calls g s0_0 s0_1 s0_2 5 t157 t158 t159 w0 _ ?side1 ?side2 A2.out).mono ?_); (case side1 => exact q6_); (case side2 => exact q3_); rintro e w8 ⟨rfl, hi, hb, hk⟩; refine ⟨_, rfl, ?_⟩; replace BK156 := A_ (KeepBut.blk hk (g' := gb156) (o := .cells #[.int .i64 0, .int .i64 0] 25 (0, 0)) (M.Lb BK156) NB156_0.out (by simp)); replace HK := A_ (KeepBut.trans (w := w) q4_ hk (.inl rfl)); replace HB := A_ (hb); replace HI0 := A_ (hi); (try clear hb); (try clear hb2); (try clear hk); (try clear hi)) | ((with_reducible refine gate_callee (f := 70) rfl ?_); refine goesL_ (some 7) rfl rfl Try.func70 kr_ rfl #[.pointer (some ⟨g, 0, none⟩), .int .i64 t157] rfl q2_ ?_; (with_reducible refine (spec_l2Draw.calls k g s0_0 t158 t159 t157 t160 t161 t162 t163 w0 _ ?side1 ?side2 A3.out).mono ?_); (case side1 => exact q6_); (case side2 => exact q3_); rintro e w9 ⟨rfl, hi, hb, hk⟩; refine ⟨_, rfl, ?_⟩; replace BK156 := A_ (KeepBut.blk hk (g' := gb156) (o := .cells #[.int .i64 0, .int .i64 0] 25 (0, 0)) (M.Lb BK156) NB156_0.out (by simp)); replace HK := A_ (KeepBut.trans (w := w) q4_ hk (.inl rfl)); replace HB := A_ (hb); replace HI0 := A_ (hi); (try clear hb); (try clear hb2); (try clear hk); (try clear hi)) | ((with_reducible refine gate_dst (N := 3) rfl ?_); refine box_event ?hg (N := 3) ?hd (cs := #[.int .i64 0, .int .i64 0]) (t := 25) ?hr ?_; (case hd => rfl); (case hg => rfl); (case hr => first | (go_simp; done) | (go_simp; rfl)); intro gb164 hg w10 hbox hb; replace HB := A_ (below_step q3_ hb); have BK164 := A_ (hbox); have GW164 := A_ ((by rw [hg]; exact (keep_size (w := w) (g := g) (row := none) q4_) : w.heap.size ≤ gb164)); have GE164 := A_ ((Nat.le_trans HW0.out (by rw [hg]; exact (keep_size (w := w) (g := g) (row := none) q4_) : w.heap.size ≤ gb164) : w0.heap.size ≤ gb164)); replace HK := A_ (KeepBut.trans (w := w) q4_ (KeepBut.of_below hb g none) (.inl rfl)); have NB156_164 := A_ ((by rw [hg]; exact Nat.ne_of_lt (blk_lt (M.Lb BK156)) : gb156 ≠ gb164)); have NB164_156 := A_ ((by rw [hg]; exact Nat.ne_of_gt (blk_lt (M.Lb BK156)) : gb164 ≠ gb156)); replace BK156 := A_ (blk_below (M.Lb BK156) hb); have NB0_164 := A_ ((by rw [hg]; exact Nat.ne_of_lt (IsS72.lt (show IsS72 w0 _ g s0_0 t162 t163 from q6_)) : g ≠ gb164)); have NB164_0 := A_ ((by rw [hg]; exact Nat.ne_of_gt (IsS72.lt (show IsS72 w0 _ g s0_0 t162 t163 from q6_)) : gb164 ≠ g)); replace HI0 := A_ (IsS72.below q6_ hb); clear hb hbox hg; have hnb11 := NB164_156.out; have hnc11 := NB156_164.out; have hnb12 := NB164_0.out; have hnc12 := NB0_164.out; have hcz13_0 := c20_ BK164; have hcz13_1 := c21_ BK164; have hfz13_0 := blk_frozen BK164.out 0; have hfz13_1 := blk_frozen BK164.out 1) | ((with_reducible refine gate_callee (f := 50) rfl ?_); refine goesL_ (some 9) rfl rfl Try.func50 kr_ rfl #[.pointer (some ⟨g, 0, none⟩), .int .i64 14] rfl q2_ ?_; (with_reducible refine (spec_l1Below.calls g s0_0 t162 t163 14 t165 t166 t167 w0 _ ?side1 ?side2 A4.out).mono ?_); (case side1 => exact q6_); (case side2 => exact q3_); rintro e w14 ⟨rfl, hi, hb, hk⟩; refine ⟨_, rfl, ?_⟩; replace BK156 := A_ (KeepBut.blk hk (g' := gb156) (o := .cells #[.int .i64 0, .int .i64 0] 25 (0, 0)) (by (with_reducible repeat (first | refine blk_drewN ?_ _ | refine blk_drew ?_ | refine blk_alloc ?_ _)); refine blk_far ?_ NB156_164.out _; (with_reducible repeat (first | refine blk_drewN ?_ _ | refine blk_drew ?_ | refine blk_alloc ?_ _)); refine blk_far ?_ NB156_164.out _; (with_reducible repeat (first | refine blk_drewN ?_ _ | refine blk_drew ?_ | refine blk_alloc ?_ _)); exact BK156.out) NB156_0.out (by simp)); replace BK164 := A_ (KeepBut.blk hk (g' := gb164) (o := .cells #[.int .i64 t160, .int .i64 t161] 25 (0, 0)) (by (with_reducible repeat (first | refine blk_drewN ?_ _ | refine blk_drew ?_ | refine blk_alloc ?_ _)); refine blk_put (cs := #[.int .i64 t160, .int .i64 0]) ?_ 1 _ rfl; (with_reducible repeat (first | refine blk_drewN ?_ _ | refine blk_drew ?_ | refine blk_alloc ?_ _)); refine blk_put (cs := #[.int .i64 0, .int .i64 0]) ?_ 0 _ rfl; (with_reducible repeat (first | refine blk_drewN ?_ _ | refine blk_drew ?_ | refine blk_alloc ?_ _)); exact BK164.out) NB164_0.out (by simp)); replace HK := A_ (KeepBut.trans (w := w) q4_ hk (.inl rfl)); replace HB := A_ (hb); replace HI0 := A_ (hi); (try clear hb); (try clear hb2); (try clear hk); (try clear hi)) | ((with_reducible refine gate_dst (N := 13) rfl ?_); refine Kd.R_lit (Kd.int .i64) _ 3 ?hg (N := 13) ?hd (xs := ([(-1), 6, 5, 0, 9223372036854775807] : List Int)) (inner := [.int .i64 (-1), .int .i64 6, .int .i64 5, .int .i64 0, .int .i64 9223372036854775807]) (ok := fun _ => True) (okp := fun _ => True) ?hr ?hp (fun _ hk => hk) trivial (Below.refl _ _) (Nat.le_refl _) (by simp) ?_; (case hd => rfl); (case hg => rfl); (case hr => first | (go_simp; done) | (go_simp; rfl)); (case hp => exact (Reps.one (show Kd.M (Kd.int .i64) _ _ _ (-1) [.int .i64 (-1)] from rfl) (Reps.one (show Kd.M (Kd.int .i64) _ _ _ 6 [.int .i64 6] from rfl) (Reps.one (show Kd.M (Kd.int .i64) _ _ _ 5 [.int .i64 5] from rfl) (Reps.one (show Kd.M (Kd.int .i64) _ _ _ 0 [.int .i64 0] from rfl) (Reps.one (show Kd.M (Kd.int .i64) _ _ _ 9223372036854775807 [.int .i64 9223372036854775807] from rfl) (Reps.none _ _))))))); intro v169 w15 ho16 hb hg_ hnew_; clear hg_ hnew_; (first | rw [← Ny168.out] at ho16 | (simp only [Int.reduceToNat] at ho16; rw [← Ny168.out] at ho16)); have HO170 := A_ (Kd.R_lower ho16 (keep_size (w := w) (g := g) (row := none) q4_)); replace BK156 := A_ (blk_below (M.Lb BK156) hb); replace BK164 := A_ (blk_below (M.Lb BK164) hb); replace HK := A_ (KeepBut.trans (w := w) q4_ (KeepBut.of_below hb g none) (.inl rfl)); replace HB := A_ (below_step q3_ hb); replace HI0 := A_ (IsS72.below q6_ hb); clear hb ho16; obtain ⟨Ao17, co17, eo17⟩ := Kd.R_slice HO170.out; subst eo17) | ((with_reducible refine gate_callee (f := 52) rfl ?_); refine goesL_ (some 14) rfl rfl Try.func52 kr_ rfl #[.pointer (some ⟨g, 0, none⟩), .slice Ao17 y168.length co17] rfl q2_ ?_; (with_reducible refine (spec_l1PickInt.calls g s0_0 t166 t167 _ _ y168 t171 t172 t173 w0 _ ?side1 ?side2 ?side3 ?side4 ?side5 A6.out).mono ?_); (case side1 => exact q6_); (case side2 => exact q3_); (case side3 => repeat (first | exact (Kd.R_reads' HO170.out).2.2 | (with_reducible refine Kd.C_alloc ?_ _) | (with_reducible refine Kd.C_drewN ?_ _) | (with_reducible refine Kd.C_drew ?_))); (case side4 => exact (Kd.R_reads' HO170.out).2.1); (case side5 => exact far_slice (IsS72.own_ne HI0.out HO170.out (by decide))); rintro e w18 ⟨rfl, hi, hb, hk⟩; refine ⟨_, rfl, ?_⟩; replace BK156 := A_ (KeepBut.blk hk (g' := gb156) (o := .cells #[.int .i64 0, .int .i64 0] 25 (0, 0)) (M.Lb BK156) NB156_0.out (by simp)); replace BK164 := A_ (KeepBut.blk hk (g' := gb164) (o := .cells #[.int .i64 t160, .int .i64 t161] 25 (0, 0)) (M.Lb BK164) NB164_0.out (by simp)); replace HO170 := A_ (Kd.R_mono (Kd.R_keep (IsS72.apart (show IsS72 w0 _ g s0_0 t166 t167 from q6_) (M.Lr HO170) (by decide)) hk (fun _ h => h.2)) (fun _ h => h.1)); replace HK := A_ (KeepBut.trans (w := w) q4_ hk (.inl rfl)); replace HB := A_ (hb); replace HI0 := A_ (hi); (try clear hb); (try clear hb2); (try clear hk); (try clear hi); have hcz19_0 := c20_ BK164; have hcz19_1 := c21_ BK164; have hfz19_0 := blk_frozen BK164.out 0; have hfz19_1 := blk_frozen BK164.out 1; have hnb20 := NB156_0.out; have hnc20 := NB0_156.out; have hcz21_0 := c20_ BK156; have hcz21_1 := c21_ BK156; have hfz21_0 := blk_frozen BK156.out 0; have hfz21_1 := blk_frozen BK156.out 1))
  refine bodyPost_ret (results_cell_row rfl _ _ gb156 25 #[.int .i64 t171, .int .i64 t161] (0, 0) _ rfl (by (with_reducible repeat (first | refine blk_drewN ?_ _ | refine blk_drew ?_ | refine blk_alloc ?_ _)); refine blk_put (cs := #[.int .i64 t171, .int .i64 0]) ?_ 1 _ rfl; (with_reducible repeat (first | refine blk_drewN ?_ _ | refine blk_drew ?_ | refine blk_alloc ?_ _)); refine blk_put (cs := #[.int .i64 0, .int .i64 0]) ?_ 0 _ rfl; (with_reducible repeat (first | refine blk_drewN ?_ _ | refine blk_drew ?_ | refine blk_alloc ?_ _)); refine blk_far ?_ NB156_164.out _; (with_reducible repeat (first | refine blk_drewN ?_ _ | refine blk_drew ?_ | refine blk_alloc ?_ _)); exact BK156.out) Try.underlying25 rfl kr_) rfl ?_
  exact ⟨q7_, q6_, q3_, q4_⟩
 ·rw [if_neg c5] at H
  have c5b0 : (t165 == 0) = false := beq_eq_false_iff_ne.mpr c5
  have c5b1 : (t165 != 0) = true := bne_iff_ne.mpr c5
  by_cases c22 : t165 = 1
  ·rw [if_pos c22] at H
   have c22b0 : (t165 == 1) = true := beq_iff_eq.mpr c22
   have c22b1 : (t165 != 1) = false := bne_eq_false_iff_eq.mpr c22
   clear c22
   obtain ⟨y174, hy174⟩ : ∃ y_ : List Int, y_ = (([(-1), 0, 1, 65536, 9223372036854775807] : List Int)) := ⟨_, rfl⟩
   replace H : ((spec_l1PickInt.f s0_0 t166 t167 y174).bind fun bt177 => (some (t160, bt177.1, bt177.2.1, bt177.2.2))) = some (r1, r2, r3, r4) := by first | (rw [hy174]; with_reducible exact H) | (have H2_ := (Option.bind_some _ _).symm.trans H; rw [hy174]; with_reducible exact H2_) | (have H2_ := (Option.bind_some _ _).symm.trans H; with_reducible exact H2_) | with_reducible exact H | (rw [hy174]; exact H) | exact H
   have Ny174 := A_ hy174; clear hy174; replace H := Option.bind_eq_some_iff.mp H; obtain ⟨⟨t177, t178, t179⟩, A230, H⟩ := H
   replace H : (some (t160, t177, t178, t179)) = some (r1, r2, r3, r4) := H
   have A23 := A_ A230; clear A230
   simp only [Option.some.injEq, Prod.mk.injEq] at H
   obtain ⟨rfl, rfl, rfl, rfl⟩ := H
   go_enter Try.func54, Try.ntmps54
   go_wp2_with (first | ((with_reducible refine gate_dst (N := 2) rfl ?_); refine box_event ?hg (N := 2) ?hd (cs := #[.int .i64 0, .int .i64 0]) (t := 25) ?hr ?_; (case hd => rfl); (case hg => rfl); (case hr => first | (go_simp; done) | (go_simp; rfl)); intro gb156 hg w24 hbox hb; replace HB := A_ (below_step q3_ hb); have BK156 := A_ (hbox); have GW156 := A_ ((by rw [hg]; exact (keep_size (w := w) (g := g) (row := none) q4_) : w.heap.size ≤ gb156)); have GE156 := A_ ((Nat.le_trans HW0.out (by rw [hg]; exact (keep_size (w := w) (g := g) (row := none) q4_) : w.heap.size ≤ gb156) : w0.heap.size ≤ gb156)); replace HK := A_ (KeepBut.trans (w := w) q4_ (KeepBut.of_below hb g none) (.inl rfl)); have NB0_156 := A_ ((by rw [hg]; exact Nat.ne_of_lt (IsS72.lt (show IsS72 w0 _ g s0_0 s0_1 s0_2 from q8_)) : g ≠ gb156)); have NB156_0 := A_ ((by rw [hg]; exact Nat.ne_of_gt (IsS72.lt (show IsS72 w0 _ g s0_0 s0_1 s0_2 from q8_)) : gb156 ≠ g)); replace HI0 := A_ (IsS72.below q8_ hb); clear hb hbox hg) | ((with_reducible refine gate_callee (f := 50) rfl ?_); refine goesL_ (some 6) rfl rfl Try.func50 kr_ rfl #[.pointer (some ⟨g, 0, none⟩), .int .i64 5] rfl q2_ ?_; (with_reducible refine (spec_l1Below.calls g s0_0 s0_1 s0_2 5 t157 t158 t159 w0 _ ?side1 ?side2 A2.out).mono ?_); (case side1 => exact q6_); (case side2 => exact q3_); rintro e w25 ⟨rfl, hi, hb, hk⟩; refine ⟨_, rfl, ?_⟩; replace BK156 := A_ (KeepBut.blk hk (g' := gb156) (o := .cells #[.int .i64 0, .int .i64 0] 25 (0, 0)) (M.Lb BK156) NB156_0.out (by simp)); replace HK := A_ (KeepBut.trans (w := w) q4_ hk (.inl rfl)); replace HB := A_ (hb); replace HI0 := A_ (hi); (try clear hb); (try clear hb2); (try clear hk); (try clear hi)) | ((with_reducible refine gate_callee (f := 70) rfl ?_); refine goesL_ (some 7) rfl rfl Try.func70 kr_ rfl #[.pointer (some ⟨g, 0, none⟩), .int .i64 t157] rfl q2_ ?_; (with_reducible refine (spec_l2Draw.calls k g s0_0 t158 t159 t157 t160 t161 t162 t163 w0 _ ?side1 ?side2 A3.out).mono ?_); (case side1 => exact q6_); (case side2 => exact q3_); rintro e w26 ⟨rfl, hi, hb, hk⟩; refine ⟨_, rfl, ?_⟩; replace BK156 := A_ (KeepBut.blk hk (g' := gb156) (o := .cells #[.int .i64 0, .int .i64 0] 25 (0, 0)) (M.Lb BK156) NB156_0.out (by simp)); replace HK := A_ (KeepBut.trans (w := w) q4_ hk (.inl rfl)); replace HB := A_ (hb); replace HI0 := A_ (hi); (try clear hb); (try clear hb2); (try clear hk); (try clear hi)) | ((with_reducible refine gate_dst (N := 3) rfl ?_); refine box_event ?hg (N := 3) ?hd (cs := #[.int .i64 0, .int .i64 0]) (t := 25) ?hr ?_; (case hd => rfl); (case hg => rfl); (case hr => first | (go_simp; done) | (go_simp; rfl)); intro gb164 hg w27 hbox hb; replace HB := A_ (below_step q3_ hb); have BK164 := A_ (hbox); have GW164 := A_ ((by rw [hg]; exact (keep_size (w := w) (g := g) (row := none) q4_) : w.heap.size ≤ gb164)); have GE164 := A_ ((Nat.le_trans HW0.out (by rw [hg]; exact (keep_size (w := w) (g := g) (row := none) q4_) : w.heap.size ≤ gb164) : w0.heap.size ≤ gb164)); replace HK := A_ (KeepBut.trans (w := w) q4_ (KeepBut.of_below hb g none) (.inl rfl)); have NB156_164 := A_ ((by rw [hg]; exact Nat.ne_of_lt (blk_lt (M.Lb BK156)) : gb156 ≠ gb164)); have NB164_156 := A_ ((by rw [hg]; exact Nat.ne_of_gt (blk_lt (M.Lb BK156)) : gb164 ≠ gb156)); replace BK156 := A_ (blk_below (M.Lb BK156) hb); have NB0_164 := A_ ((by rw [hg]; exact Nat.ne_of_lt (IsS72.lt (show IsS72 w0 _ g s0_0 t162 t163 from q6_)) : g ≠ gb164)); have NB164_0 := A_ ((by rw [hg]; exact Nat.ne_of_gt (IsS72.lt (show IsS72 w0 _ g s0_0 t162 t163 from q6_)) : gb164 ≠ g)); replace HI0 := A_ (IsS72.below q6_ hb); clear hb hbox hg; have hnb28 := NB164_156.out; have hnc28 := NB156_164.out; have hnb29 := NB164_0.out; have hnc29 := NB0_164.out; have hcz30_0 := c20_ BK164; have hcz30_1 := c21_ BK164; have hfz30_0 := blk_frozen BK164.out 0; have hfz30_1 := blk_frozen BK164.out 1) | ((with_reducible refine gate_callee (f := 50) rfl ?_); refine goesL_ (some 9) rfl rfl Try.func50 kr_ rfl #[.pointer (some ⟨g, 0, none⟩), .int .i64 14] rfl q2_ ?_; (with_reducible refine (spec_l1Below.calls g s0_0 t162 t163 14 t165 t166 t167 w0 _ ?side1 ?side2 A4.out).mono ?_); (case side1 => exact q6_); (case side2 => exact q3_); rintro e w31 ⟨rfl, hi, hb, hk⟩; refine ⟨_, rfl, ?_⟩; replace BK156 := A_ (KeepBut.blk hk (g' := gb156) (o := .cells #[.int .i64 0, .int .i64 0] 25 (0, 0)) (by (with_reducible repeat (first | refine blk_drewN ?_ _ | refine blk_drew ?_ | refine blk_alloc ?_ _)); refine blk_far ?_ NB156_164.out _; (with_reducible repeat (first | refine blk_drewN ?_ _ | refine blk_drew ?_ | refine blk_alloc ?_ _)); refine blk_far ?_ NB156_164.out _; (with_reducible repeat (first | refine blk_drewN ?_ _ | refine blk_drew ?_ | refine blk_alloc ?_ _)); exact BK156.out) NB156_0.out (by simp)); replace BK164 := A_ (KeepBut.blk hk (g' := gb164) (o := .cells #[.int .i64 t160, .int .i64 t161] 25 (0, 0)) (by (with_reducible repeat (first | refine blk_drewN ?_ _ | refine blk_drew ?_ | refine blk_alloc ?_ _)); refine blk_put (cs := #[.int .i64 t160, .int .i64 0]) ?_ 1 _ rfl; (with_reducible repeat (first | refine blk_drewN ?_ _ | refine blk_drew ?_ | refine blk_alloc ?_ _)); refine blk_put (cs := #[.int .i64 0, .int .i64 0]) ?_ 0 _ rfl; (with_reducible repeat (first | refine blk_drewN ?_ _ | refine blk_drew ?_ | refine blk_alloc ?_ _)); exact BK164.out) NB164_0.out (by simp)); replace HK := A_ (KeepBut.trans (w := w) q4_ hk (.inl rfl)); replace HB := A_ (hb); replace HI0 := A_ (hi); (try clear hb); (try clear hb2); (try clear hk); (try clear hi)) | ((with_reducible refine gate_dst (N := 19) rfl ?_); refine Kd.R_lit (Kd.int .i64) _ 3 ?hg (N := 19) ?hd (xs := ([(-1), 0, 1, 65536, 9223372036854775807] : List Int)) (inner := [.int .i64 (-1), .int .i64 0, .int .i64 1, .int .i64 65536, .int .i64 9223372036854775807]) (ok := fun _ => True) (okp := fun _ => True) ?hr ?hp (fun _ hk => hk) trivial (Below.refl _ _) (Nat.le_refl _) (by simp) ?_; (case hd => rfl); (case hg => rfl); (case hr => first | (go_simp; done) | (go_simp; rfl)); (case hp => exact (Reps.one (show Kd.M (Kd.int .i64) _ _ _ (-1) [.int .i64 (-1)] from rfl) (Reps.one (show Kd.M (Kd.int .i64) _ _ _ 0 [.int .i64 0] from rfl) (Reps.one (show Kd.M (Kd.int .i64) _ _ _ 1 [.int .i64 1] from rfl) (Reps.one (show Kd.M (Kd.int .i64) _ _ _ 65536 [.int .i64 65536] from rfl) (Reps.one (show Kd.M (Kd.int .i64) _ _ _ 9223372036854775807 [.int .i64 9223372036854775807] from rfl) (Reps.none _ _))))))); intro v175 w32 ho33 hb hg_ hnew_; clear hg_ hnew_; (first | rw [← Ny174.out] at ho33 | (simp only [Int.reduceToNat] at ho33; rw [← Ny174.out] at ho33)); have HO176 := A_ (Kd.R_lower ho33 (keep_size (w := w) (g := g) (row := none) q4_)); replace BK156 := A_ (blk_below (M.Lb BK156) hb); replace BK164 := A_ (blk_below (M.Lb BK164) hb); replace HK := A_ (KeepBut.trans (w := w) q4_ (KeepBut.of_below hb g none) (.inl rfl)); replace HB := A_ (below_step q3_ hb); replace HI0 := A_ (IsS72.below q6_ hb); clear hb ho33; obtain ⟨Ao34, co34, eo34⟩ := Kd.R_slice HO176.out; subst eo34) | ((with_reducible refine gate_callee (f := 52) rfl ?_); refine goesL_ (some 20) rfl rfl Try.func52 kr_ rfl #[.pointer (some ⟨g, 0, none⟩), .slice Ao34 y174.length co34] rfl q2_ ?_; (with_reducible refine (spec_l1PickInt.calls g s0_0 t166 t167 _ _ y174 t177 t178 t179 w0 _ ?side1 ?side2 ?side3 ?side4 ?side5 A23.out).mono ?_); (case side1 => exact q6_); (case side2 => exact q3_); (case side3 => repeat (first | exact (Kd.R_reads' HO176.out).2.2 | (with_reducible refine Kd.C_alloc ?_ _) | (with_reducible refine Kd.C_drewN ?_ _) | (with_reducible refine Kd.C_drew ?_))); (case side4 => exact (Kd.R_reads' HO176.out).2.1); (case side5 => exact far_slice (IsS72.own_ne HI0.out HO176.out (by decide))); rintro e w35 ⟨rfl, hi, hb, hk⟩; refine ⟨_, rfl, ?_⟩; replace BK156 := A_ (KeepBut.blk hk (g' := gb156) (o := .cells #[.int .i64 0, .int .i64 0] 25 (0, 0)) (M.Lb BK156) NB156_0.out (by simp)); replace BK164 := A_ (KeepBut.blk hk (g' := gb164) (o := .cells #[.int .i64 t160, .int .i64 t161] 25 (0, 0)) (M.Lb BK164) NB164_0.out (by simp)); replace HO176 := A_ (Kd.R_mono (Kd.R_keep (IsS72.apart (show IsS72 w0 _ g s0_0 t166 t167 from q6_) (M.Lr HO176) (by decide)) hk (fun _ h => h.2)) (fun _ h => h.1)); replace HK := A_ (KeepBut.trans (w := w) q4_ hk (.inl rfl)); replace HB := A_ (hb); replace HI0 := A_ (hi); (try clear hb); (try clear hb2); (try clear hk); (try clear hi); have hcz36_0 := c20_ BK164; have hcz36_1 := c21_ BK164; have hfz36_0 := blk_frozen BK164.out 0; have hfz36_1 := blk_frozen BK164.out 1; have hnb37 := NB156_0.out; have hnc37 := NB0_156.out; have hcz38_0 := c20_ BK156; have hcz38_1 := c21_ BK156; have hfz38_0 := blk_frozen BK156.out 0; have hfz38_1 := blk_frozen BK156.out 1))
   refine bodyPost_ret (results_cell_row rfl _ _ gb156 25 #[.int .i64 t160, .int .i64 t177] (0, 0) _ rfl (by (with_reducible repeat (first | refine blk_drewN ?_ _ | refine blk_drew ?_ | refine blk_alloc ?_ _)); refine blk_put (cs := #[.int .i64 t160, .int .i64 0]) ?_ 1 _ rfl; (with_reducible repeat (first | refine blk_drewN ?_ _ | refine blk_drew ?_ | refine blk_alloc ?_ _)); refine blk_put (cs := #[.int .i64 0, .int .i64 0]) ?_ 0 _ rfl; (with_reducible repeat (first | refine blk_drewN ?_ _ | refine blk_drew ?_ | refine blk_alloc ?_ _)); refine blk_far ?_ NB156_164.out _; (with_reducible repeat (first | refine blk_drewN ?_ _ | refine blk_drew ?_ | refine blk_alloc ?_ _)); exact BK156.out) Try.underlying25 rfl kr_) rfl ?_
   exact ⟨q7_, q6_, q3_, q4_⟩
  ·rw [if_neg c22] at H
   have c22b0 : (t165 == 1) = false := beq_eq_false_iff_ne.mpr c22
   have c22b1 : (t165 != 1) = true := bne_iff_ne.mpr c22
   simp only [Option.some.injEq, Prod.mk.injEq] at H
   obtain ⟨rfl, rfl, rfl, rfl⟩ := H
   go_enter Try.func54, Try.ntmps54
   go_wp2_with (first | ((with_reducible refine gate_dst (N := 2) rfl ?_); refine box_event ?hg (N := 2) ?hd (cs := #[.int .i64 0, .int .i64 0]) (t := 25) ?hr ?_; (case hd => rfl); (case hg => rfl); (case hr => first | (go_simp; done) | (go_simp; rfl)); intro gb156 hg w39 hbox hb; replace HB := A_ (below_step q3_ hb); have BK156 := A_ (hbox); have GW156 := A_ ((by rw [hg]; exact (keep_size (w := w) (g := g) (row := none) q4_) : w.heap.size ≤ gb156)); have GE156 := A_ ((Nat.le_trans HW0.out (by rw [hg]; exact (keep_size (w := w) (g := g) (row := none) q4_) : w.heap.size ≤ gb156) : w0.heap.size ≤ gb156)); replace HK := A_ (KeepBut.trans (w := w) q4_ (KeepBut.of_below hb g none) (.inl rfl)); have NB0_156 := A_ ((by rw [hg]; exact Nat.ne_of_lt (IsS72.lt (show IsS72 w0 _ g s0_0 s0_1 s0_2 from q8_)) : g ≠ gb156)); have NB156_0 := A_ ((by rw [hg]; exact Nat.ne_of_gt (IsS72.lt (show IsS72 w0 _ g s0_0 s0_1 s0_2 from q8_)) : gb156 ≠ g)); replace HI0 := A_ (IsS72.below q8_ hb); clear hb hbox hg) | ((with_reducible refine gate_callee (f := 50) rfl ?_); refine goesL_ (some 6) rfl rfl Try.func50 kr_ rfl #[.pointer (some ⟨g, 0, none⟩), .int .i64 5] rfl q2_ ?_; (with_reducible refine (spec_l1Below.calls g s0_0 s0_1 s0_2 5 t157 t158 t159 w0 _ ?side1 ?side2 A2.out).mono ?_); (case side1 => exact q6_); (case side2 => exact q3_); rintro e w40 ⟨rfl, hi, hb, hk⟩; refine ⟨_, rfl, ?_⟩; replace BK156 := A_ (KeepBut.blk hk (g' := gb156) (o := .cells #[.int .i64 0, .int .i64 0] 25 (0, 0)) (M.Lb BK156) NB156_0.out (by simp)); replace HK := A_ (KeepBut.trans (w := w) q4_ hk (.inl rfl)); replace HB := A_ (hb); replace HI0 := A_ (hi); (try clear hb); (try clear hb2); (try clear hk); (try clear hi)) | ((with_reducible refine gate_callee (f := 70) rfl ?_); refine goesL_ (some 7) rfl rfl Try.func70 kr_ rfl #[.pointer (some ⟨g, 0, none⟩), .int .i64 t157] rfl q2_ ?_; (with_reducible refine (spec_l2Draw.calls k g s0_0 t158 t159 t157 t160 t161 t162 t163 w0 _ ?side1 ?side2 A3.out).mono ?_); (case side1 => exact q6_); (case side2 => exact q3_); rintro e w41 ⟨rfl, hi, hb, hk⟩; refine ⟨_, rfl, ?_⟩; replace BK156 := A_ (KeepBut.blk hk (g' := gb156) (o := .cells #[.int .i64 0, .int .i64 0] 25 (0, 0)) (M.Lb BK156) NB156_0.out (by simp)); replace HK := A_ (KeepBut.trans (w := w) q4_ hk (.inl rfl)); replace HB := A_ (hb); replace HI0 := A_ (hi); (try clear hb); (try clear hb2); (try clear hk); (try clear hi)) | ((with_reducible refine gate_dst (N := 3) rfl ?_); refine box_event ?hg (N := 3) ?hd (cs := #[.int .i64 0, .int .i64 0]) (t := 25) ?hr ?_; (case hd => rfl); (case hg => rfl); (case hr => first | (go_simp; done) | (go_simp; rfl)); intro gb164 hg w42 hbox hb; replace HB := A_ (below_step q3_ hb); have BK164 := A_ (hbox); have GW164 := A_ ((by rw [hg]; exact (keep_size (w := w) (g := g) (row := none) q4_) : w.heap.size ≤ gb164)); have GE164 := A_ ((Nat.le_trans HW0.out (by rw [hg]; exact (keep_size (w := w) (g := g) (row := none) q4_) : w.heap.size ≤ gb164) : w0.heap.size ≤ gb164)); replace HK := A_ (KeepBut.trans (w := w) q4_ (KeepBut.of_below hb g none) (.inl rfl)); have NB156_164 := A_ ((by rw [hg]; exact Nat.ne_of_lt (blk_lt (M.Lb BK156)) : gb156 ≠ gb164)); have NB164_156 := A_ ((by rw [hg]; exact Nat.ne_of_gt (blk_lt (M.Lb BK156)) : gb164 ≠ gb156)); replace BK156 := A_ (blk_below (M.Lb BK156) hb); have NB0_164 := A_ ((by rw [hg]; exact Nat.ne_of_lt (IsS72.lt (show IsS72 w0 _ g s0_0 t162 t163 from q6_)) : g ≠ gb164)); have NB164_0 := A_ ((by rw [hg]; exact Nat.ne_of_gt (IsS72.lt (show IsS72 w0 _ g s0_0 t162 t163 from q6_)) : gb164 ≠ g)); replace HI0 := A_ (IsS72.below q6_ hb); clear hb hbox hg; have hnb43 := NB164_156.out; have hnc43 := NB156_164.out; have hnb44 := NB164_0.out; have hnc44 := NB0_164.out; have hcz45_0 := c20_ BK164; have hcz45_1 := c21_ BK164; have hfz45_0 := blk_frozen BK164.out 0; have hfz45_1 := blk_frozen BK164.out 1) | ((with_reducible refine gate_callee (f := 50) rfl ?_); refine goesL_ (some 9) rfl rfl Try.func50 kr_ rfl #[.pointer (some ⟨g, 0, none⟩), .int .i64 14] rfl q2_ ?_; (with_reducible refine (spec_l1Below.calls g s0_0 t162 t163 14 t165 t166 t167 w0 _ ?side1 ?side2 A4.out).mono ?_); (case side1 => exact q6_); (case side2 => exact q3_); rintro e w46 ⟨rfl, hi, hb, hk⟩; refine ⟨_, rfl, ?_⟩; replace BK156 := A_ (KeepBut.blk hk (g' := gb156) (o := .cells #[.int .i64 0, .int .i64 0] 25 (0, 0)) (by (with_reducible repeat (first | refine blk_drewN ?_ _ | refine blk_drew ?_ | refine blk_alloc ?_ _)); refine blk_far ?_ NB156_164.out _; (with_reducible repeat (first | refine blk_drewN ?_ _ | refine blk_drew ?_ | refine blk_alloc ?_ _)); refine blk_far ?_ NB156_164.out _; (with_reducible repeat (first | refine blk_drewN ?_ _ | refine blk_drew ?_ | refine blk_alloc ?_ _)); exact BK156.out) NB156_0.out (by simp)); replace BK164 := A_ (KeepBut.blk hk (g' := gb164) (o := .cells #[.int .i64 t160, .int .i64 t161] 25 (0, 0)) (by (with_reducible repeat (first | refine blk_drewN ?_ _ | refine blk_drew ?_ | refine blk_alloc ?_ _)); refine blk_put (cs := #[.int .i64 t160, .int .i64 0]) ?_ 1 _ rfl; (with_reducible repeat (first | refine blk_drewN ?_ _ | refine blk_drew ?_ | refine blk_alloc ?_ _)); refine blk_put (cs := #[.int .i64 0, .int .i64 0]) ?_ 0 _ rfl; (with_reducible repeat (first | refine blk_drewN ?_ _ | refine blk_drew ?_ | refine blk_alloc ?_ _)); exact BK164.out) NB164_0.out (by simp)); replace HK := A_ (KeepBut.trans (w := w) q4_ hk (.inl rfl)); replace HB := A_ (hb); replace HI0 := A_ (hi); (try clear hb); (try clear hb2); (try clear hk); (try clear hi); have hcz47_0 := c20_ BK164; have hcz47_1 := c21_ BK164; have hfz47_0 := blk_frozen BK164.out 0; have hfz47_1 := blk_frozen BK164.out 1; have hnb48 := NB156_0.out; have hnc48 := NB0_156.out; have hcz49_0 := c20_ BK156; have hcz49_1 := c21_ BK156; have hfz49_0 := blk_frozen BK156.out 0; have hfz49_1 := blk_frozen BK156.out 1))
   refine bodyPost_ret (results_cell_row rfl _ _ gb156 25 #[.int .i64 t160, .int .i64 t161] (0, 0) _ rfl (by (with_reducible repeat (first | refine blk_drewN ?_ _ | refine blk_drew ?_ | refine blk_alloc ?_ _)); refine blk_put (cs := #[.int .i64 t160, .int .i64 0]) ?_ 1 _ rfl; (with_reducible repeat (first | refine blk_drewN ?_ _ | refine blk_drew ?_ | refine blk_alloc ?_ _)); refine blk_put (cs := #[.int .i64 0, .int .i64 0]) ?_ 0 _ rfl; (with_reducible repeat (first | refine blk_drewN ?_ _ | refine blk_drew ?_ | refine blk_alloc ?_ _)); exact BK156.out) Try.underlying25 rfl kr_) rfl ?_
   exact ⟨q7_, q6_, q3_, q4_⟩
end Go.Proofs.Ytloekoepknfodaa.Print
