/- Several texts of this repo's programs in one: plain lemmas, or functions of the given program as plain Lean functions with proofs that their calls compute them. -/
import Derived.Test.YtonaebjpnmiilaaProg
import Derived.Below
import Derived.Deep.Draws
import Derived.Deep.AppendLies
import Derived.Maps.AppendAt
import Derived.OwnWalk
import Derived.Laws.BytesArg
import Derived.Laws.MakeOwn
import Derived.Laws.OwnMore
import Derived.Deep.OwnRows
import Derived.Tactics
import Derived.Lib.ConvBytes
import Derived.Laws.Slices
import Derived.WalkKit
import Derived.KernelRfl
import Derived.RowKit3
import Derived.Deep.LoopGhost
import Derived.Deep.QuietTactic
import Derived.BigQuiet
import Derived.WideLaws
import Derived.Deep.DeepCutAuto
import Derived.Deep.CutBlock
import Derived.Deep.RegionHeld3
import Derived.Laws.Rows
import Derived.Lib.AppendStr
import Derived.ArgAppend
import Derived.Laws.IdiomCopy
import Derived.OrdersHeld
import Derived.Laws.BitsLemmas
import Derived.RowKit
import Derived.Test.YtonaebjpnmiilaaWWords
import Derived.Test.YtonaebjpnmiilaaWLast
import Derived.Test.YtonaebjpnmiilaaWTab
import Derived.Test.YtonaebjpnmiilaaWFour
import Derived.Test.YtonaebjpnmiilaaWQPut
import Derived.Test.YtonaebjpnmiilaaWApart
import Derived.Test.YtonaebjpnmiilaaWArr
import Derived.Test.YtonaebjpnmiilaaWZeros
import Derived.Test.YtonaebjpnmiilaaWFoot
import Derived.Test.YtonaebjpnmiilaaWKept
import Derived.Test.YtonaebjpnmiilaaWShare
import Derived.Test.YtonaebjpnmiilaaWN
import Derived.Test.YtonaebjpnmiilaaWFootNe
import Derived.Test.YtonaebjpnmiilaaWAt
import Derived.Test.YtonaebjpnmiilaaWEqStruct
import Derived.Test.YtonaebjpnmiilaaWRepsOne
import Derived.Test.YtonaebjpnmiilaaWInv
import Derived.Test.YtonaebjpnmiilaaWInvWords
import Derived.Test.YtonaebjpnmiilaaWGuard
import Derived.Test.YtonaebjpnmiilaaWNEv
import Derived.Test.YtonaebjpnmiilaaWMore
import Derived.Test.YtonaebjpnmiilaaM24
import Derived.Shelf.GgClosure.Gives
namespace Go.Proofs.Ytonaebjpnmiilaa.Print
open Go.RowKit Go.Proofs.YtonaebjpnmiilaaW.PrintWords Go.Proofs.YtonaebjpnmiilaaW.PrintLast Go.Proofs.YtonaebjpnmiilaaW.PrintMore
attribute [local go_sem] max2_int min2_int max_two min_two max_three min_three max_four min_four   -- for this text's walks alone
set_option linter.unusedVariables false
set_option linter.unusedSimpArgs false
def errW : Option Int → Value
 | none => .nilIface
 | some c => .iface 0 (.int .i64 c)
theorem errW_none : errW none = .nilIface := rfl
theorem errW_some (c : Int) : errW (some c) = .iface 0 (.int .i64 c) := rfl
theorem shl_u_nn (x y : Int) : 0 ≤ shl .u64 x y := by
 unfold shl
 simp only [IntKind.wrap, IntKind.bits, IntKind.signed]
 exact Int.emod_nonneg _ (by decide)
theorem info3 : (Try.prog.info? 3).map (fun i => (i.zero, i.size, i.bytes)) = some (some (.int .i64 0), 1, 8) := by kernel_rfl
theorem info57 : (Try.prog.info? 57).map (fun i => (i.zero, i.size, i.bytes)) = some (some (.agg #[(.int .i64 0), (.int .i64 0)]), 2, 16) := by kernel_rfl
/-! #### struct type 57 -/
structure S57 where
 f0 : Int
 f1 : Int
def z57 : S57 := ⟨(0 : Int), (0 : Int)⟩
def k57 : Kd S57 := Kd.iso (Kd.pair (Kd.int .i64) (Kd.int .i64)) (fun x : S57 => (x.f0, x.f1))
theorem k57_open {w : World} {x : S57} {cs : List Value} (h : k57.K w x cs) : cs = [.int .i64 x.f0, .int .i64 x.f1] := by
 obtain ⟨_, _, rfl, rfl, rfl⟩ := h
 exact rfl
theorem k57_openM {w : World} {base : Nat} {ok : Nat → Prop} {x : S57} {cs : List Value} (h : k57.M w base ok x cs) : cs = [.int .i64 x.f0, .int .i64 x.f1] := by
 obtain ⟨_, _, rfl, rfl, rfl⟩ := h
 exact rfl
theorem k57_mkM (w : World) (base : Nat) (ok : Nat → Prop) (x : S57)  : k57.M w base ok x [.int .i64 x.f0, .int .i64 x.f1] := ⟨[.int .i64 x.f0], [.int .i64 x.f1], rfl, rfl, rfl⟩
def rd_T57 (xs : List S57) (i : Int) : S57 := xs.getD i.toNat z57
theorem at_T57 {w : World} {A : Option Addr} {n : Nat} {xs : List S57} (h : Kd.C k57 w A n xs) (i : Int) (h0 : 0 ≤ i) (h1 : i < n) : ∃ ad , A = some ad ∧ w.cell? (ad.add (i.toNat * 2)) = some (.int .i64 (rd_T57 xs i).f0) ∧ w.cell? ⟨(ad.add (i.toNat * 2)).block, (ad.add (i.toNat * 2)).off + 1, none⟩ = some (.int .i64 (rd_T57 xs i).f1) := by
 obtain ⟨ad, c, e, _, hK, hc0⟩ := Kd.C_get h z57 i h0 h1
 have hc : ∀ j u, c[j]? = some u → w.cell? (ad.add (i.toNat * 2 + j)) = some u := hc0
 obtain rfl := k57_open hK
 exact ⟨ad, e, hc 0 _ rfl, by rw [← add_field _ _ 1 (by omega)]; exact hc 1 _ rfl⟩
/-! #### struct type 33 -/
structure S33 where
 f0 : Int
 f1 : Int
end Go.Proofs.Ytonaebjpnmiilaa.Print
namespace Go.Proofs.Ytonaebjpnmiilaa.Print
open Go.RowKit Go.Proofs.YtonaebjpnmiilaaW.PrintWords Go.Proofs.YtonaebjpnmiilaaW.PrintLast Go.Proofs.YtonaebjpnmiilaaW.PrintMore
attribute [local go_sem] max2_int min2_int max_two min_two max_three min_three max_four min_four   -- for this text's walks alone
set_option linter.unusedVariables false
set_option linter.unusedSimpArgs false
theorem eqA33 (d : Nat) (w : World) (x0 y0 : Int) (x1 y1 : Int) :
  (Op.equalIn (d + 2) 33 (.agg #[.int .i64 x0, .int .i64 x1]) (.agg #[.int .i64 y0, .int .i64 y1])).run Try.prog w = .ok (x0 == y0 && (x1 == y1)) w := by
 refine eqA_of Try.underlying33 (by kernel_rfl) ?_
 refine eqf_cons (by rfl) (by go_simp; rfl) (by go_simp; rfl) (by go_simp) ?_
 exact eqf_last (by rfl) (by go_simp; rfl) (by go_simp; rfl) (by go_simp)
end Go.Proofs.Ytonaebjpnmiilaa.Print
namespace Go.Proofs.Ytonaebjpnmiilaa.Print
open Go.RowKit Go.Proofs.YtonaebjpnmiilaaW.PrintWords Go.Proofs.YtonaebjpnmiilaaW.PrintLast Go.Proofs.YtonaebjpnmiilaaW.PrintMore
attribute [local go_sem] max2_int min2_int max_two min_two max_three min_three max_four min_four   -- for this text's walks alone
set_option linter.unusedVariables false
set_option linter.unusedSimpArgs false
/-! ### slices_IndexFunc_int_int: function 66 -/
open Go.Proofs.Ytonaebjpnmiilaa.M
/-- the first place of a list of whole numbers at which p holds, or -1 -/
def slices_IndexFunc_int_int.idx (p : Int → Bool) (l : List Int) : Int := match l.findIdx? p with | some i => (i : Int) | none => -1
theorem slices_IndexFunc_int_int.hit (p : Int → Bool) (l : List Int) (k : Nat) (hk : k < l.length) (h : p (l.getD k 0) = true) (hb : ∀ j, j < k → p (l.getD j 0) = false) : slices_IndexFunc_int_int.idx p l = (k : Int) := by
 have e : l.findIdx? p = some k := by
  rw [List.findIdx?_eq_some_iff_getElem]
  refine ⟨hk, ?_, fun j hj => ?_⟩
  ·simpa [List.getD_eq_getElem?_getD, hk] using h
  ·have := hb j hj
   simpa [List.getD_eq_getElem?_getD, show j < l.length by omega] using this
 unfold slices_IndexFunc_int_int.idx; rw [e]
theorem slices_IndexFunc_int_int.miss (p : Int → Bool) (l : List Int) (hb : ∀ j, j < l.length → p (l.getD j 0) = false) : slices_IndexFunc_int_int.idx p l = -1 := by
 have e : l.findIdx? p = none := by
  rw [List.findIdx?_eq_none_iff]
  intro x hx
  obtain ⟨j, hj, rfl⟩ := List.getElem_of_mem hx
  have := hb j hj
  simpa [List.getD_eq_getElem?_getD, hj] using this
 unfold slices_IndexFunc_int_int.idx; rw [e]
theorem slices_IndexFunc_int_int.idx_any (p : Int → Bool) (l : List Int) : decide (0 ≤ slices_IndexFunc_int_int.idx p l) = l.any p := by
 unfold slices_IndexFunc_int_int.idx
 cases h : l.findIdx? p with
 | none =>
  rw [List.findIdx?_eq_none_iff] at h
  have : l.any p = false := List.any_eq_false.mpr (fun x hx => by rw [h x hx]; decide)
  rw [this]; rfl
 | some i =>
  rw [List.findIdx?_eq_some_iff_getElem] at h
  obtain ⟨hi, h1, _⟩ := h
  have : l.any p = true := List.any_eq_true.mpr ⟨_, List.getElem_mem hi, h1⟩
  rw [this]
  exact decide_eq_true (Int.natCast_nonneg i)
set_option maxHeartbeats 2000000 in
theorem slices_IndexFunc_int_int.call (p : Int → Bool) (g : Nat) (lb : Array Value) (eg : ∀ args w, (callFunc g args).run Try.prog w = .ok (.enter g args) w) (A : Option Addr) (c : Nat) (l : List Int) (w : World) (hr : Kd.C (Kd.int .i64) w A l.length l) (hm : l.length ≤ 9223372036854775807)
  (hp : ∀ (x : Int) (W : World), x ∈ l → Below w.heap.size w W → Calls Try.prog g (#[.int .i64 x] ++ lb) W fun e W' => e = .returned (.bool (p x)) ∧ Below W.heap.size W W') :
  Calls Try.prog 66 #[.slice A l.length c, .func (.func g) #[] lb] w fun e w' => e = .returned (.int .i64 (slices_IndexFunc_int_int.idx p l)) ∧ Below w.heap.size w w' := by
 have HR := Aside0.mk hr; have HP := Aside0.mk hp; clear hr hp
 go_enter Try.func66, Try.ntmps66
 go_wp2
 go_loopg [5, 8] l.length (fun gg _ s8 wr => ∃ kk : Nat, kk ≤ l.length ∧ l.length - kk ≤ gg ∧ s8 = .int .i64 (kk : Int) ∧ Aside0 (Below w.heap.size w wr) ∧ Aside0 (∀ j, j < kk → p (l.getD j 0) = false))
 case atStart => exact ⟨0, Nat.zero_le _, by omega, rfl, ⟨Below.refl _ w⟩, ⟨fun j hj => absurd hj (Nat.not_lt_zero _)⟩⟩
 case round =>
  obtain ⟨kk, hkk, hg, rfl, BW, HA⟩ := hrel
  by_cases hlt : kk < l.length
  ·have hltz : (kk : Int) < (l.length : Int) := by omega
   obtain ⟨ad, ea, c0⟩ := Kd.at_int (Kd.C_below HR.out BW.out) (kk : Int) (by omega) hltz
   cases ea
   have hy : rd l (kk : Int) = l.getD kk 0 := by simp [rd]
   have hmem : rd l (kk : Int) ∈ l := by
    rw [hy, List.getD_eq_getElem?_getD, List.getElem?_eq_getElem hlt]; exact List.getElem_mem hlt
   have hcall := HP.out (rd l (kk : Int)) wr hmem BW.out
   clear hmem
   generalize rd l (kk : Int) = y at c0 hcall hy
   have HY := Aside0.mk hy; clear hy
   simp only [Int.toNat_natCast] at c0
   have HC := Aside0.mk hcall; clear hcall
   cases hq : p y with
   | true =>
    rw [hq] at HC
    go_wp2_with (go_at_fn g; refine HC.out.mono ?_; rintro e w' ⟨rfl, hb'⟩)
    go_ret
    refine ⟨?_, BW.out.trans (hb'.mono BW.out.size)⟩
    rw [slices_IndexFunc_int_int.hit p l kk hlt (by rw [← HY.out]; exact hq) HA.out]
    rfl
   | false =>
    rw [hq] at HC
    go_wp2_with (go_at_fn g; refine HC.out.mono ?_; rintro e w' ⟨rfl, hb'⟩)
    go_roundg (l.length - (kk + 1))
    case measure => omega
    case rel =>
     refine ⟨kk + 1, by omega, by omega, by go_num, ⟨BW.out.trans (hb'.mono BW.out.size)⟩, ⟨fun j hj => ?_⟩⟩
     by_cases e : j = kk
     ·subst e
      rw [← HY.out]; exact hq
     ·exact HA.out j (by omega)
  ·have hltz : ¬ (kk : Int) < (l.length : Int) := by omega
   have hkl : kk = l.length := by omega
   go_wp2
   go_ret
   refine ⟨?_, BW.out⟩
   rw [slices_IndexFunc_int_int.miss p l (fun j hj => HA.out j (by omega))]
   rfl
end Go.Proofs.Ytonaebjpnmiilaa.Print
namespace Go.Proofs.Ytonaebjpnmiilaa.Print
open Go.RowKit Go.Proofs.YtonaebjpnmiilaaW.PrintWords Go.Proofs.YtonaebjpnmiilaaW.PrintLast Go.Proofs.YtonaebjpnmiilaaW.PrintMore
attribute [local go_sem] max2_int min2_int max_two min_two max_three min_three max_four min_four   -- for this text's walks alone
set_option linter.unusedVariables false
set_option linter.unusedSimpArgs false
/-! ### slices_ContainsFunc_int_int: function 58 -/
open Go.Proofs.Ytonaebjpnmiilaa.M
theorem slices_ContainsFunc_int_int.call (p : Int → Bool) (g : Nat) (lb : Array Value) (eg : ∀ args w, (callFunc g args).run Try.prog w = .ok (.enter g args) w) (A : Option Addr) (c : Nat) (l : List Int) (w : World) (hr : Kd.C (Kd.int .i64) w A l.length l) (hm : l.length ≤ 9223372036854775807)
  (hp : ∀ (x : Int) (W : World), x ∈ l → Below w.heap.size w W → Calls Try.prog g (#[.int .i64 x] ++ lb) W fun e W' => e = .returned (.bool (p x)) ∧ Below W.heap.size W W') :
  Calls Try.prog 58 #[.slice A l.length c, .func (.func g) #[] lb] w fun e w' => e = .returned (.bool (l.any p)) ∧ Below w.heap.size w w' := by
 have HI := Aside0.mk (slices_IndexFunc_int_int.call p g lb eg A c l w hr hm hp)
 have hv := slices_IndexFunc_int_int.idx_any p l
 clear hp
 generalize slices_IndexFunc_int_int.idx p l = ix at *
 rw [← hv]
 clear hv
 go_enter Try.func58, Try.ntmps58
 go_wp2_with (first | (go_at_call 66; (with_reducible refine HI.out.mono ?_); rintro e w1 ⟨rfl, hb1⟩))
 go_ret
 exact ⟨rfl, hb1⟩
end Go.Proofs.Ytonaebjpnmiilaa.Print
namespace Go.Proofs.Ytonaebjpnmiilaa.Print
open Go.RowKit Go.Proofs.YtonaebjpnmiilaaW.PrintWords Go.Proofs.YtonaebjpnmiilaaW.PrintLast Go.Proofs.YtonaebjpnmiilaaW.PrintMore
attribute [local go_sem] max2_int min2_int max_two min_two max_three min_three max_four min_four   -- for this text's walks alone
set_option linter.unusedVariables false
set_option linter.unusedSimpArgs false
/-! ### impl_decides: function 57 -/
mutual
def impl_decides.l0 : Nat → List (S57) → Int → List (S57) → Int → Int → Option (Bool)
 | 0, _, _, _, _, _ => none
 | k + 1, x0, x1, x9, x10, x11 => if x11 < x10 then (if 0 ≤ x11 then (if x11 < (x9.length : Int) then (if x11 ≤ (x0.length : Int) then ((some (x0.take (x11 : Int).toNat : List (S57))).bind fun y273 => (impl_decides.l1 k x0 x1 x9 x10 x11 y273 (y273.length : Int) 0 ((rd_T57 x9 x11).f0) ((rd_T57 x9 x11).f1))) else (none)) else (none)) else (none)) else (some true)
def impl_decides.l1 : Nat → List (S57) → Int → List (S57) → Int → Int → List (S57) → Int → Int → Int → Int → Option (Bool)
 | 0, _, _, _, _, _, _, _, _, _, _ => none
 | k + 1, x0, x1, x9, x10, x11, x18, x19, x20, x273000, x273001 => if x20 < x19 then (if 0 ≤ x20 then (if x20 < (x18.length : Int) then (if (Go.bits .and .i64 x273000 x1) = (Go.bits .and .i64 ((rd_T57 x18 x20).f0) x1) then (if x273001 = ((rd_T57 x18 x20).f1) then (impl_decides.l1 k x0 x1 x9 x10 x11 x18 x19 (wrap64 (x20 + 1)) x273000 x273001) else (some false)) else (impl_decides.l1 k x0 x1 x9 x10 x11 x18 x19 (wrap64 (x20 + 1)) x273000 x273001)) else (none)) else (none)) else (impl_decides.l0 k x0 x1 x9 x10 (wrap64 (x11 + 1)))
end
def impl_decides.f (k : Nat) (l0 : List (S57)) (a1 : Int) : Option (Bool) := impl_decides.l0 k l0 a1 l0 (l0.length : Int) 0
set_option maxHeartbeats 8000000 in
set_option maxRecDepth 100000 in
theorem impl_decides.calls (k : Nat) (A0 : Option Addr) (c0 : Nat) (l0 : List (S57)) (a1 : Int) (r : Bool) (w : World) (hr0 : Kd.C k57 w A0 l0.length l0) (hc0 : l0.length ≤ c0) (h : impl_decides.f k l0 a1 = some r) :
  Calls Try.prog 57 #[.slice A0 l0.length c0, .int .i64 a1] w fun e w' => e = .returned (.bool r) ∧ Below w.heap.size w w' := by
 have hu57 := Try.underlying57
 have HR0 := Aside0.mk hr0; have HC0 := Aside0.mk hc0; clear hr0 hc0
 have HB := Aside0.mk (Below.refl w.heap.size w)
 have H : (impl_decides.l0 k l0 a1 l0 (l0.length : Int) 0) = some r := h
 clear h
 have H' := Aside0.mk H
 clear H
 go_enter Try.func57, Try.ntmps57
 go_wp2
 go_loopg [11] k (fun kq v11 w' => ∃ (x11_1 : Int), v11 = .int .i64 x11_1 ∧ Aside0 (impl_decides.l0 kq l0 a1 l0 (l0.length : Int) x11_1 = some r) ∧ Aside0 (kq ≤ k) ∧ Aside0 (Below w.heap.size w w'))
 case atStart => exact ⟨(0), (by first | rfl | (simp; done) | (simp [*]; done)), H', ⟨Nat.le_refl _⟩, ⟨by repeat (first | (with_reducible first | exact HB.out | apply below_alloc | apply pw_below_drewN | apply below_drew1) | exact HB.out)⟩⟩
 case round =>
  clear H'; (try clear p2); obtain ⟨x11_1, rfl, HA, HK1, HB⟩ := hrel
  cases gk with
  | zero => exact absurd HA.out (by simp [impl_decides.l0])
  | succ k1 =>
   have H := HA.out
   clear HA
   simp only [impl_decides.l0] at H
   by_cases c3 : x11_1 < (l0.length : Int)
   ·rw [if_pos c3] at H
    have c3b0 : decide (x11_1 < (l0.length : Int)) = true := decide_eq_true c3
    clear c3
    by_cases c4 : 0 ≤ x11_1
    ·rw [if_pos c4] at H
     have c4b0 : decide (0 ≤ x11_1) = true := decide_eq_true c4
     clear c4
     by_cases c5 : x11_1 < (l0.length : Int)
     ·rw [if_pos c5] at H
      have c5b0 : decide (x11_1 < (l0.length : Int)) = true := decide_eq_true c5
      clear c5
      have c6b0 := eq_true (of_decide_eq_true (by first | (with_reducible assumption) | assumption) : 0 ≤ x11_1)
      by_cases c7 : x11_1 ≤ (l0.length : Int)
      ·rw [if_pos c7] at H
       have c7b0 := eq_true c7
       have c7b1 : decide (x11_1 ≤ (l0.length : Int)) = true := decide_eq_true c7
       clear c7
       obtain ⟨y273, hy273⟩ : ∃ y_ : List (S57), y_ = (l0.take (x11_1 : Int).toNat) := ⟨_, rfl⟩
       replace H : (impl_decides.l1 k1 l0 a1 l0 (l0.length : Int) x11_1 y273 (y273.length : Int) 0 ((rd_T57 l0 x11_1).f0) ((rd_T57 l0 x11_1).f1)) = some r := by first | (rw [hy273]; with_reducible exact H) | (have H2_ := (Option.bind_some _ _).symm.trans H; rw [hy273]; with_reducible exact H2_) | (have H2_ := (Option.bind_some _ _).symm.trans H; with_reducible exact H2_) | with_reducible exact H | (rw [hy273]; exact H) | exact H
       have Ny273 := Aside0.mk hy273; clear hy273
       have H' := Aside0.mk H
       clear H
       have p271 : 0 ≤ (x11_1 : Int) := of_decide_eq_true (by first | (with_reducible assumption) | assumption)
       have q271 : x11_1 < (l0.length : Int) := of_decide_eq_true (by first | (with_reducible assumption) | assumption)
       obtain ⟨ad271, e271, hx271_0, hx271_1⟩ := at_T57 HR0.out x11_1 p271 q271
       cases e271
       replace hx271_0 := (HB.out.cell (World.block_lt_of_cell? w _ hx271_0)).trans hx271_0
       replace hx271_1 := (HB.out.cell (World.block_lt_of_cell? w _ hx271_1)).trans hx271_1
       replace p271 := eq_true p271
       replace q271 := eq_true q271
       go_wp2_with (first | ((with_reducible refine gate_dst (N := 6) rfl ?_); refine box_event ?hg (N := 6) ?hd (cs := #[.int .i64 0, .int .i64 0]) (t := 57) ?hr ?_; (case hd => rfl); (case hg => rfl); (case hr => first | (go_simp; done) | (go_simp; rfl)); intro gb272 hg w8 hbox hb; have n0_ := Aside0.mk (below_step (by repeat (first | (with_reducible first | exact HB.out | apply below_alloc | apply pw_below_drewN | apply below_drew1) | exact HB.out)) hb); have n1_ := Aside0.mk (hbox); have n2_ := Aside0.mk ((by rw [hg]; exact (below_size (by repeat (first | (with_reducible first | exact HB.out | apply below_alloc | apply pw_below_drewN | apply below_drew1) | exact HB.out))) : w.heap.size ≤ gb272)); have n3_ := Aside0.mk ((by rw [hg]; exact (below_size (by repeat (first | (with_reducible first | exact HB.out | apply below_alloc | apply pw_below_drewN | apply below_drew1) | exact HB.out))) : w.heap.size ≤ gb272)); clear HB; have HB := n0_; have BK272 := n1_; have GW272 := n2_; have GE272 := n3_; clear n0_ n1_ n2_ n3_; clear hb hbox hg; have hcz9_0 : w8.cell? ⟨gb272, 0, none⟩ = some (.int .i64 0) := (blk_cell BK272.out 0).trans rfl; have hcz9_1 : w8.cell? ⟨gb272, 1, none⟩ = some (.int .i64 0) := (blk_cell BK272.out 1).trans rfl; have hfz9_0 := blk_frozen BK272.out 0; have hfz9_1 := blk_frozen BK272.out 1) | ((with_reducible refine gate_store (t := 57) (p := 6) rfl ?_); refine store_event (t := 57) (p := 6) (v := ?vo_w10) (w1 := ((w8.setCell ⟨gb272, 0, none⟩ (.int .i64 ((rd_T57 l0 x11_1).f0))).setCell ⟨gb272, 1, none⟩ (.int .i64 ((rd_T57 l0 x11_1).f1)))) ?hg ?ho ?hn ?hr ?_; (case ho => rfl); (case hg => rfl); (case hn => rfl); (case hr => first | (go_simp; done) | (go_simp; rfl)); intro w10 hw; have n0_ : Aside0 (w10.heap[gb272]? = some (.cells #[.int .i64 ((rd_T57 l0 x11_1).f0), .int .i64 ((rd_T57 l0 x11_1).f1)] 57 (0, 0))) := ⟨(by rw [hw]; exact (by (with_reducible repeat (first | refine blk_drewN ?_ _ | refine blk_drew ?_ | refine blk_alloc ?_ _)); refine blk_put (cs := #[.int .i64 ((rd_T57 l0 x11_1).f0), .int .i64 0]) ?_ 1 _ rfl; (with_reducible repeat (first | refine blk_drewN ?_ _ | refine blk_drew ?_ | refine blk_alloc ?_ _)); refine blk_put (cs := #[.int .i64 0, .int .i64 0]) ?_ 0 _ rfl; (with_reducible repeat (first | refine blk_drewN ?_ _ | refine blk_drew ?_ | refine blk_alloc ?_ _)); exact BK272.out))⟩; have n1_ : Aside0 (Below w.heap.size w w10) := ⟨(by rw [hw]; exact (by repeat (first | (with_reducible first | exact HB.out | apply below_alloc | apply pw_below_drewN | apply below_drew1 | refine below_set ?_ GE272.out) | exact HB.out)))⟩; clear hw; clear BK272; clear HB; have BK272 := n0_; have HB := n1_; clear n0_ n1_; have q11 : (x11_1 : Int) ≤ ((l0.length : Int) : Int) := of_decide_eq_true (by first | (with_reducible assumption) | assumption); obtain ⟨i011, hi011, _, hsz11, _⟩ := info_parts info57; have hroom11 : l0.length ≤ c0 := HC0.out; have hC11 : Kd.C k57 _ (some ad271) l0.length l0 := HR0.out; have hcut11 := cut_to (P := Try.prog) 24 57 .i64 Try.underlying24 hi011 (some ad271) l0.length c0 x11_1 (of_decide_eq_true (by first | (with_reducible assumption) | assumption)) q11 hroom11; have hr11 := Kd.C_take (m := (x11_1 : Int).toNat) hC11 (by omega); have hy11 : y273.length = (x11_1 : Int).toNat := (by rw [Ny273.out, List.length_take]; omega); rw [← Ny273.out] at hr11; rw [← hy11] at hcut11; have HR276 := Aside0.mk hr11; have HC276 := Aside0.mk (show y273.length ≤ c0 from by omega); clear hr11 hC11 hroom11 hi011 hsz11; have KY11 := Aside0.mk hy11; clear hy11; replace q11 := eq_true q11))
       go_loopg [20] k1 (fun kq v20 w' => ∃ (x20_2 : Int), v20 = .int .i64 x20_2 ∧ Aside0 (impl_decides.l1 kq l0 a1 l0 (l0.length : Int) x11_1 y273 (y273.length : Int) x20_2 ((rd_T57 l0 x11_1).f0) ((rd_T57 l0 x11_1).f1) = some r) ∧ Aside0 (kq ≤ k1) ∧ Aside0 (w'.heap[gb272]? = some (.cells #[.int .i64 ((rd_T57 l0 x11_1).f0), .int .i64 ((rd_T57 l0 x11_1).f1)] 57 (0, 0))) ∧ Aside0 (Below w.heap.size w w'))
       case atStart => exact ⟨(0), (by first | rfl | (simp; done) | (simp [*]; done)), H', ⟨Nat.le_refl _⟩, ⟨by (with_reducible repeat (first | refine blk_drewN ?_ _ | refine blk_drew ?_ | refine blk_alloc ?_ _)); exact BK272.out⟩, ⟨by repeat (first | (with_reducible first | exact HB.out | apply below_alloc | apply pw_below_drewN | apply below_drew1 | refine below_set ?_ GE272.out) | exact HB.out)⟩⟩
       case round =>
        clear H'; (try clear q1); (try clear p2); (try clear q2); (try clear hx2); (try clear c3); (try clear c3b0); (try clear c4); (try clear c4b0); (try clear c5); (try clear c5b0); (try clear c6); (try clear c6b0); (try clear c7); (try clear c7b0); (try clear c7b1); (try clear q11); (try clear hcz9_0); (try clear hcz9_1); (try clear hfz9_0); (try clear hfz9_1); (try clear hx271_0); (try clear hx271_1); (try clear p2); (try clear p271); (try clear q11); (try clear q271); obtain ⟨x20_2, rfl, HA, HK2, BK272, HB⟩ := hrel
        cases gk with
        | zero => exact absurd HA.out (by simp [impl_decides.l1])
        | succ k2 =>
         have H := HA.out
         clear HA
         simp only [impl_decides.l1] at H
         by_cases c12 : x20_2 < (y273.length : Int)
         ·rw [if_pos c12] at H
          have c12b0 : decide (x20_2 < (y273.length : Int)) = true := decide_eq_true c12
          clear c12
          by_cases c13 : 0 ≤ x20_2
          ·rw [if_pos c13] at H
           have c13b0 : decide (0 ≤ x20_2) = true := decide_eq_true c13
           clear c13
           by_cases c14 : x20_2 < (y273.length : Int)
           ·rw [if_pos c14] at H
            have c14b0 : decide (x20_2 < (y273.length : Int)) = true := decide_eq_true c14
            clear c14
            by_cases c15 : (Go.bits .and .i64 ((rd_T57 l0 x11_1).f0) a1) = (Go.bits .and .i64 ((rd_T57 y273 x20_2).f0) a1)
            ·rw [if_pos c15] at H
             have c15b0 : ((Go.bits .and .i64 ((rd_T57 l0 x11_1).f0) a1) == (Go.bits .and .i64 ((rd_T57 y273 x20_2).f0) a1)) = true := beq_iff_eq.mpr c15
             have c15b1 : ((Go.bits .and .i64 ((rd_T57 l0 x11_1).f0) a1) != (Go.bits .and .i64 ((rd_T57 y273 x20_2).f0) a1)) = false := bne_eq_false_iff_eq.mpr c15
             clear c15
             by_cases c16 : ((rd_T57 l0 x11_1).f1) = ((rd_T57 y273 x20_2).f1)
             ·rw [if_pos c16] at H
              have c16b0 : (((rd_T57 l0 x11_1).f1) == ((rd_T57 y273 x20_2).f1)) = true := beq_iff_eq.mpr c16
              have c16b1 : (((rd_T57 l0 x11_1).f1) != ((rd_T57 y273 x20_2).f1)) = false := bne_eq_false_iff_eq.mpr c16
              clear c16
              have H' := Aside0.mk H
              clear H
              have p277 : 0 ≤ (x20_2 : Int) := of_decide_eq_true (by first | (with_reducible assumption) | assumption)
              have q277 : x20_2 < (y273.length : Int) := of_decide_eq_true (by first | (with_reducible assumption) | assumption)
              obtain ⟨ad277, e277, hx277_0, hx277_1⟩ := at_T57 HR276.out x20_2 p277 q277
              obtain rfl : ad271 = ad277 := (by injection e277)
              replace hx277_0 := (HB.out.cell (World.block_lt_of_cell? w _ hx277_0)).trans hx277_0
              replace hx277_1 := (HB.out.cell (World.block_lt_of_cell? w _ hx277_1)).trans hx277_1
              replace p277 := eq_true p277
              replace q277 := eq_true q277
              go_wp2_with (first | ((with_reducible refine gate_dst (N := 8) rfl ?_); refine box_event ?hg (N := 8) ?hd (cs := #[.int .i64 0, .int .i64 0]) (t := 57) ?hr ?_; (case hd => rfl); (case hg => rfl); (case hr => first | (go_simp; done) | (go_simp; rfl)); intro gb278 hg w17 hbox hb; have n0_ := Aside0.mk (blk_below (g := gb272) (o := .cells #[.int .i64 ((rd_T57 l0 x11_1).f0), .int .i64 ((rd_T57 l0 x11_1).f1)] 57 (0, 0)) (by (with_reducible repeat (first | refine blk_drewN ?_ _ | refine blk_drew ?_ | refine blk_alloc ?_ _)); exact BK272.out) hb); have n1_ := Aside0.mk (below_step (by repeat (first | (with_reducible first | exact HB.out | apply below_alloc | apply pw_below_drewN | apply below_drew1 | refine below_set ?_ GE272.out) | exact HB.out)) hb); have n2_ := Aside0.mk (hbox); have n3_ := Aside0.mk ((by rw [hg]; exact (below_size (by repeat (first | (with_reducible first | exact HB.out | apply below_alloc | apply pw_below_drewN | apply below_drew1 | refine below_set ?_ GE272.out) | exact HB.out))) : w.heap.size ≤ gb278)); have n4_ := Aside0.mk ((by rw [hg]; exact (below_size (by repeat (first | (with_reducible first | exact HB.out | apply below_alloc | apply pw_below_drewN | apply below_drew1 | refine below_set ?_ GE272.out) | exact HB.out))) : w.heap.size ≤ gb278)); have n5_ := Aside0.mk ((by rw [hg]; exact Nat.ne_of_lt (blk_lt (g := gb272) (o := .cells #[.int .i64 ((rd_T57 l0 x11_1).f0), .int .i64 ((rd_T57 l0 x11_1).f1)] 57 (0, 0)) (by (with_reducible repeat (first | refine blk_drewN ?_ _ | refine blk_drew ?_ | refine blk_alloc ?_ _)); exact BK272.out)) : gb272 ≠ gb278)); have n6_ := Aside0.mk ((by rw [hg]; exact Nat.ne_of_gt (blk_lt (g := gb272) (o := .cells #[.int .i64 ((rd_T57 l0 x11_1).f0), .int .i64 ((rd_T57 l0 x11_1).f1)] 57 (0, 0)) (by (with_reducible repeat (first | refine blk_drewN ?_ _ | refine blk_drew ?_ | refine blk_alloc ?_ _)); exact BK272.out)) : gb278 ≠ gb272)); clear BK272; clear HB; have BK272 := n0_; have HB := n1_; have BK278 := n2_; have GW278 := n3_; have GE278 := n4_; have NB272_278 := n5_; have NB278_272 := n6_; clear n0_ n1_ n2_ n3_ n4_ n5_ n6_; clear hb hbox hg; have hnb18 := NB278_272.out; have hnc18 := NB272_278.out; have hcz19_0 : w17.cell? ⟨gb278, 0, none⟩ = some (.int .i64 0) := (blk_cell BK278.out 0).trans rfl; have hcz19_1 : w17.cell? ⟨gb278, 1, none⟩ = some (.int .i64 0) := (blk_cell BK278.out 1).trans rfl; have hfz19_0 := blk_frozen BK278.out 0; have hfz19_1 := blk_frozen BK278.out 1; have hcz20_0 : w17.cell? ⟨gb272, 0, none⟩ = some (.int .i64 ((rd_T57 l0 x11_1).f0)) := (blk_cell BK272.out 0).trans rfl; have hcz20_1 : w17.cell? ⟨gb272, 1, none⟩ = some (.int .i64 ((rd_T57 l0 x11_1).f1)) := (blk_cell BK272.out 1).trans rfl; have hfz20_0 := blk_frozen BK272.out 0; have hfz20_1 := blk_frozen BK272.out 1))
              go_roundg k2
              case measure => have := HK1.out; have := HK2.out; omega
              case rel => exact ⟨(wrap64 (x20_2 + 1)), (by first | rfl | (simp; done) | (simp [*]; done)), H', ⟨by have := HK1.out; have := HK2.out; omega⟩, ⟨by (with_reducible repeat (first | refine blk_drewN ?_ _ | refine blk_drew ?_ | refine blk_alloc ?_ _)); refine blk_far ?_ NB272_278.out _; (with_reducible repeat (first | refine blk_drewN ?_ _ | refine blk_drew ?_ | refine blk_alloc ?_ _)); refine blk_far ?_ NB272_278.out _; (with_reducible repeat (first | refine blk_drewN ?_ _ | refine blk_drew ?_ | refine blk_alloc ?_ _)); exact BK272.out⟩, ⟨by repeat (first | (with_reducible first | exact HB.out | apply below_alloc | apply pw_below_drewN | apply below_drew1 | refine below_set ?_ GE272.out | refine below_set ?_ GE278.out) | exact HB.out)⟩⟩
             ·rw [if_neg c16] at H
              have c16b0 : (((rd_T57 l0 x11_1).f1) == ((rd_T57 y273 x20_2).f1)) = false := beq_eq_false_iff_ne.mpr c16
              have c16b1 : (((rd_T57 l0 x11_1).f1) != ((rd_T57 y273 x20_2).f1)) = true := bne_iff_ne.mpr c16
              obtain rfl := Option.some.inj H
              have p277 : 0 ≤ (x20_2 : Int) := of_decide_eq_true (by first | (with_reducible assumption) | assumption)
              have q277 : x20_2 < (y273.length : Int) := of_decide_eq_true (by first | (with_reducible assumption) | assumption)
              obtain ⟨ad277, e277, hx277_0, hx277_1⟩ := at_T57 HR276.out x20_2 p277 q277
              obtain rfl : ad271 = ad277 := (by injection e277)
              replace hx277_0 := (HB.out.cell (World.block_lt_of_cell? w _ hx277_0)).trans hx277_0
              replace hx277_1 := (HB.out.cell (World.block_lt_of_cell? w _ hx277_1)).trans hx277_1
              replace p277 := eq_true p277
              replace q277 := eq_true q277
              go_wp2_with (first | ((with_reducible refine gate_dst (N := 8) rfl ?_); refine box_event ?hg (N := 8) ?hd (cs := #[.int .i64 0, .int .i64 0]) (t := 57) ?hr ?_; (case hd => rfl); (case hg => rfl); (case hr => first | (go_simp; done) | (go_simp; rfl)); intro gb278 hg w21 hbox hb; have n0_ := Aside0.mk (blk_below (g := gb272) (o := .cells #[.int .i64 ((rd_T57 l0 x11_1).f0), .int .i64 ((rd_T57 l0 x11_1).f1)] 57 (0, 0)) (by (with_reducible repeat (first | refine blk_drewN ?_ _ | refine blk_drew ?_ | refine blk_alloc ?_ _)); exact BK272.out) hb); have n1_ := Aside0.mk (below_step (by repeat (first | (with_reducible first | exact HB.out | apply below_alloc | apply pw_below_drewN | apply below_drew1 | refine below_set ?_ GE272.out) | exact HB.out)) hb); have n2_ := Aside0.mk (hbox); have n3_ := Aside0.mk ((by rw [hg]; exact (below_size (by repeat (first | (with_reducible first | exact HB.out | apply below_alloc | apply pw_below_drewN | apply below_drew1 | refine below_set ?_ GE272.out) | exact HB.out))) : w.heap.size ≤ gb278)); have n4_ := Aside0.mk ((by rw [hg]; exact (below_size (by repeat (first | (with_reducible first | exact HB.out | apply below_alloc | apply pw_below_drewN | apply below_drew1 | refine below_set ?_ GE272.out) | exact HB.out))) : w.heap.size ≤ gb278)); have n5_ := Aside0.mk ((by rw [hg]; exact Nat.ne_of_lt (blk_lt (g := gb272) (o := .cells #[.int .i64 ((rd_T57 l0 x11_1).f0), .int .i64 ((rd_T57 l0 x11_1).f1)] 57 (0, 0)) (by (with_reducible repeat (first | refine blk_drewN ?_ _ | refine blk_drew ?_ | refine blk_alloc ?_ _)); exact BK272.out)) : gb272 ≠ gb278)); have n6_ := Aside0.mk ((by rw [hg]; exact Nat.ne_of_gt (blk_lt (g := gb272) (o := .cells #[.int .i64 ((rd_T57 l0 x11_1).f0), .int .i64 ((rd_T57 l0 x11_1).f1)] 57 (0, 0)) (by (with_reducible repeat (first | refine blk_drewN ?_ _ | refine blk_drew ?_ | refine blk_alloc ?_ _)); exact BK272.out)) : gb278 ≠ gb272)); clear BK272; clear HB; have BK272 := n0_; have HB := n1_; have BK278 := n2_; have GW278 := n3_; have GE278 := n4_; have NB272_278 := n5_; have NB278_272 := n6_; clear n0_ n1_ n2_ n3_ n4_ n5_ n6_; clear hb hbox hg; have hnb22 := NB278_272.out; have hnc22 := NB272_278.out; have hcz23_0 : w21.cell? ⟨gb278, 0, none⟩ = some (.int .i64 0) := (blk_cell BK278.out 0).trans rfl; have hcz23_1 : w21.cell? ⟨gb278, 1, none⟩ = some (.int .i64 0) := (blk_cell BK278.out 1).trans rfl; have hfz23_0 := blk_frozen BK278.out 0; have hfz23_1 := blk_frozen BK278.out 1; have hcz24_0 : w21.cell? ⟨gb272, 0, none⟩ = some (.int .i64 ((rd_T57 l0 x11_1).f0)) := (blk_cell BK272.out 0).trans rfl; have hcz24_1 : w21.cell? ⟨gb272, 1, none⟩ = some (.int .i64 ((rd_T57 l0 x11_1).f1)) := (blk_cell BK272.out 1).trans rfl; have hfz24_0 := blk_frozen BK272.out 0; have hfz24_1 := blk_frozen BK272.out 1))
              go_ret
              exact ⟨by first | rfl | (simp [errW_none, errW_some] <;> rfl) | (simp [*, errW_none, errW_some] <;> rfl), by repeat (first | (with_reducible first | exact HB.out | apply below_alloc | apply pw_below_drewN | apply below_drew1 | refine below_set ?_ GE272.out | refine below_set ?_ GE278.out) | exact HB.out)⟩
            ·rw [if_neg c15] at H
             have c15b0 : ((Go.bits .and .i64 ((rd_T57 l0 x11_1).f0) a1) == (Go.bits .and .i64 ((rd_T57 y273 x20_2).f0) a1)) = false := beq_eq_false_iff_ne.mpr c15
             have c15b1 : ((Go.bits .and .i64 ((rd_T57 l0 x11_1).f0) a1) != (Go.bits .and .i64 ((rd_T57 y273 x20_2).f0) a1)) = true := bne_iff_ne.mpr c15
             have H' := Aside0.mk H
             clear H
             have p277 : 0 ≤ (x20_2 : Int) := of_decide_eq_true (by first | (with_reducible assumption) | assumption)
             have q277 : x20_2 < (y273.length : Int) := of_decide_eq_true (by first | (with_reducible assumption) | assumption)
             obtain ⟨ad277, e277, hx277_0, hx277_1⟩ := at_T57 HR276.out x20_2 p277 q277
             obtain rfl : ad271 = ad277 := (by injection e277)
             replace hx277_0 := (HB.out.cell (World.block_lt_of_cell? w _ hx277_0)).trans hx277_0
             replace hx277_1 := (HB.out.cell (World.block_lt_of_cell? w _ hx277_1)).trans hx277_1
             replace p277 := eq_true p277
             replace q277 := eq_true q277
             go_wp2_with (first | ((with_reducible refine gate_dst (N := 8) rfl ?_); refine box_event ?hg (N := 8) ?hd (cs := #[.int .i64 0, .int .i64 0]) (t := 57) ?hr ?_; (case hd => rfl); (case hg => rfl); (case hr => first | (go_simp; done) | (go_simp; rfl)); intro gb278 hg w25 hbox hb; have n0_ := Aside0.mk (blk_below (g := gb272) (o := .cells #[.int .i64 ((rd_T57 l0 x11_1).f0), .int .i64 ((rd_T57 l0 x11_1).f1)] 57 (0, 0)) (by (with_reducible repeat (first | refine blk_drewN ?_ _ | refine blk_drew ?_ | refine blk_alloc ?_ _)); exact BK272.out) hb); have n1_ := Aside0.mk (below_step (by repeat (first | (with_reducible first | exact HB.out | apply below_alloc | apply pw_below_drewN | apply below_drew1 | refine below_set ?_ GE272.out) | exact HB.out)) hb); have n2_ := Aside0.mk (hbox); have n3_ := Aside0.mk ((by rw [hg]; exact (below_size (by repeat (first | (with_reducible first | exact HB.out | apply below_alloc | apply pw_below_drewN | apply below_drew1 | refine below_set ?_ GE272.out) | exact HB.out))) : w.heap.size ≤ gb278)); have n4_ := Aside0.mk ((by rw [hg]; exact (below_size (by repeat (first | (with_reducible first | exact HB.out | apply below_alloc | apply pw_below_drewN | apply below_drew1 | refine below_set ?_ GE272.out) | exact HB.out))) : w.heap.size ≤ gb278)); have n5_ := Aside0.mk ((by rw [hg]; exact Nat.ne_of_lt (blk_lt (g := gb272) (o := .cells #[.int .i64 ((rd_T57 l0 x11_1).f0), .int .i64 ((rd_T57 l0 x11_1).f1)] 57 (0, 0)) (by (with_reducible repeat (first | refine blk_drewN ?_ _ | refine blk_drew ?_ | refine blk_alloc ?_ _)); exact BK272.out)) : gb272 ≠ gb278)); have n6_ := Aside0.mk ((by rw [hg]; exact Nat.ne_of_gt (blk_lt (g := gb272) (o := .cells #[.int .i64 ((rd_T57 l0 x11_1).f0), .int .i64 ((rd_T57 l0 x11_1).f1)] 57 (0, 0)) (by (with_reducible repeat (first | refine blk_drewN ?_ _ | refine blk_drew ?_ | refine blk_alloc ?_ _)); exact BK272.out)) : gb278 ≠ gb272)); clear BK272; clear HB; have BK272 := n0_; have HB := n1_; have BK278 := n2_; have GW278 := n3_; have GE278 := n4_; have NB272_278 := n5_; have NB278_272 := n6_; clear n0_ n1_ n2_ n3_ n4_ n5_ n6_; clear hb hbox hg; have hnb26 := NB278_272.out; have hnc26 := NB272_278.out; have hcz27_0 : w25.cell? ⟨gb278, 0, none⟩ = some (.int .i64 0) := (blk_cell BK278.out 0).trans rfl; have hcz27_1 : w25.cell? ⟨gb278, 1, none⟩ = some (.int .i64 0) := (blk_cell BK278.out 1).trans rfl; have hfz27_0 := blk_frozen BK278.out 0; have hfz27_1 := blk_frozen BK278.out 1; have hcz28_0 : w25.cell? ⟨gb272, 0, none⟩ = some (.int .i64 ((rd_T57 l0 x11_1).f0)) := (blk_cell BK272.out 0).trans rfl; have hcz28_1 : w25.cell? ⟨gb272, 1, none⟩ = some (.int .i64 ((rd_T57 l0 x11_1).f1)) := (blk_cell BK272.out 1).trans rfl; have hfz28_0 := blk_frozen BK272.out 0; have hfz28_1 := blk_frozen BK272.out 1))
             go_roundg k2
             case measure => have := HK1.out; have := HK2.out; omega
             case rel => exact ⟨(wrap64 (x20_2 + 1)), (by first | rfl | (simp; done) | (simp [*]; done)), H', ⟨by have := HK1.out; have := HK2.out; omega⟩, ⟨by (with_reducible repeat (first | refine blk_drewN ?_ _ | refine blk_drew ?_ | refine blk_alloc ?_ _)); refine blk_far ?_ NB272_278.out _; (with_reducible repeat (first | refine blk_drewN ?_ _ | refine blk_drew ?_ | refine blk_alloc ?_ _)); refine blk_far ?_ NB272_278.out _; (with_reducible repeat (first | refine blk_drewN ?_ _ | refine blk_drew ?_ | refine blk_alloc ?_ _)); exact BK272.out⟩, ⟨by repeat (first | (with_reducible first | exact HB.out | apply below_alloc | apply pw_below_drewN | apply below_drew1 | refine below_set ?_ GE272.out | refine below_set ?_ GE278.out) | exact HB.out)⟩⟩
           ·rw [if_neg c14] at H
            exact absurd H (by simp)
          ·rw [if_neg c13] at H
           exact absurd H (by simp)
         ·rw [if_neg c12] at H
          have c12b0 : decide (x20_2 < (y273.length : Int)) = false := decide_eq_false c12
          clear c12
          have H' := Aside0.mk H
          clear H
          go_wp2
          go_roundg k2
          case measure => have := HK1.out; have := HK2.out; omega
          case rel => exact ⟨(wrap64 (x11_1 + 1)), (by first | rfl | (simp; done) | (simp [*]; done)), H', ⟨by have := HK1.out; have := HK2.out; omega⟩, ⟨by repeat (first | (with_reducible first | exact HB.out | apply below_alloc | apply pw_below_drewN | apply below_drew1 | refine below_set ?_ GE272.out) | exact HB.out)⟩⟩
      ·rw [if_neg c7] at H
       exact absurd H (by simp)
     ·rw [if_neg c5] at H
      exact absurd H (by simp)
    ·rw [if_neg c4] at H
     exact absurd H (by simp)
   ·rw [if_neg c3] at H
    have c3b0 : decide (x11_1 < (l0.length : Int)) = false := decide_eq_false c3
    clear c3
    obtain rfl := Option.some.inj H
    go_wp2
    go_ret
    exact ⟨by first | rfl | (simp [errW_none, errW_some] <;> rfl) | (simp [*, errW_none, errW_some] <;> rfl), by repeat (first | (with_reducible first | exact HB.out | apply below_alloc | apply pw_below_drewN | apply below_drew1) | exact HB.out)⟩
end Go.Proofs.Ytonaebjpnmiilaa.Print
namespace Go.Proofs.Ytonaebjpnmiilaa.Print
open Go.RowKit Go.Proofs.YtonaebjpnmiilaaW.PrintWords Go.Proofs.YtonaebjpnmiilaaW.PrintLast Go.Proofs.YtonaebjpnmiilaaW.PrintMore
attribute [local go_sem] max2_int min2_int max_two min_two max_three min_three max_four min_four   -- for this text's walks alone
set_option linter.unusedVariables false
set_option linter.unusedSimpArgs false
/-! ### impl_consistent: function 32 -/
open Go.Proofs.Ytonaebjpnmiilaa.M
/-- is none of a list's sets a part of m -/
def impl_consistent.fresh (out : List Int) (m : Int) : Bool := !(out.any (fun x => Go.bits .andNot .i64 x m == 0))
/-- the least sets among the first ones, where all tell whether they decide -/
def impl_consistent.con (g : Nat → Option Bool) : Nat → Option (List Int)
 | 0 => some []
 | m + 1 => (impl_consistent.con g m).bind fun out => (g m).bind fun d => some (if d = true ∧ impl_consistent.fresh out (m : Int) = true then out ++ [(m : Int)] else out)
theorem impl_consistent.con_some {g : Nat → Option Bool} {M : Nat} {r : List Int} (h : impl_consistent.con g M = some r) : ∀ d m, m + d = M → ∃ out, impl_consistent.con g m = some out
 | 0, m, e => ⟨r, by rw [show m = M by omega]; exact h⟩
 | d + 1, m, e => by
  obtain ⟨o, ho⟩ := impl_consistent.con_some h d (m + 1) (by omega)
  rw [impl_consistent.con] at ho
  obtain ⟨out, h1, _⟩ := Option.bind_eq_some_iff.mp ho
  exact ⟨out, h1⟩
theorem impl_consistent.con_len {g : Nat → Option Bool} : ∀ {m : Nat} {r : List Int}, impl_consistent.con g m = some r → r.length ≤ m
 | 0, r, h => by cases Option.some.inj h; simp
 | m + 1, r, h => by
  rw [impl_consistent.con] at h
  obtain ⟨out, h1, h⟩ := Option.bind_eq_some_iff.mp h
  obtain ⟨d, h2, h⟩ := Option.bind_eq_some_iff.mp h
  have := impl_consistent.con_len h1
  have e := Option.some.inj h
  rw [← e]
  split <;> simp <;> omega
def impl_consistent.f (k : Nat) (a0 : Int) (l1 : List (S57)) : Option (List Int) := if 0 ≤ a0 ∧ a0 ≤ 5 then impl_consistent.con (fun m => impl_decides.f k l1 (m : Int)) (2 ^ a0.toNat) else none
theorem impl_consistent.clo (x m : Int) (B : Nat) (w : World) (fm : w.cell? ⟨B, 0, none⟩ = some (.int .i64 m)) :
  Calls Try.prog 59 #[.int .i64 x, .pointer (some ⟨B, 0, none⟩)] w fun e w' => e = .returned (.bool (Go.bits .andNot .i64 x m == 0)) ∧ Below w.heap.size w w' := by
 go_enter Try.func59, Try.ntmps59
 go_wp2_with (fail)
 go_ret
 exact ⟨rfl, by repeat (first | exact Below.refl _ _ | apply pw_below_drewN)⟩
set_option maxHeartbeats 4000000 in
set_option maxRecDepth 100000 in
theorem impl_consistent.good (k : Nat) (n : Nat) (hn : n ≤ 5) (M : Nat) (hM : M = 2 ^ n) (A1 : Option Addr) (c1 : Nat) (l1 : List (S57)) (r : List Int) (w : World) (hr1 : Kd.C k57 w A1 l1.length l1) (hc1 : l1.length ≤ c1) (h : impl_consistent.con (fun m => impl_decides.f k l1 (m : Int)) M = some r) :
  Calls Try.prog 32 #[.int .i64 (n : Int), .slice A1 l1.length c1] w fun e w' => ∃ v0_ : Value, e = .returned v0_ ∧ Kd.R (Kd.int .i64) 3 w' w.heap.size (fun _ => True) v0_ r ∧ Below w.heap.size w w' := by
 have h32 := pow_le_5 hn
 have hHH := Aside0.mk h; have HR1 := Aside0.mk hr1; have HC1 := Aside0.mk hc1
 have e10 : wrap64 ((2 : Int) ^ n) = (M : Int) := by
  have : ((2 : Int) ^ n) = ((2 ^ n : Nat) : Int) := by push_cast; rfl
  rw [this, ← hM]
  exact w64 (by omega) (by omega)
 have hM32 : M ≤ 32 := by omega
 clear h hr1 hc1 hM h32
 go_enter Try.func32, Try.ntmps32
 go_wp2
 rw [e10]
 clear e10
 go_loopg [5, 9] M (fun gg v5 v9 w' => ∃ (x : Nat) (out : List Int), x ≤ M ∧ M - x ≤ gg ∧ v9 = .int .i64 (x : Int) ∧ Aside0 (impl_consistent.con (fun m => impl_decides.f k l1 (m : Int)) x = some out) ∧ Aside0 (Kd.R (Kd.int .i64) 3 w' w.heap.size (fun _ => True) v5 out) ∧ Aside0 (Below w.heap.size w w'))
 case atStart => exact ⟨0, [], Nat.zero_le _, by omega, rfl, ⟨rfl⟩, ⟨Kd.R_nil _ _ _ _ _⟩, ⟨Below.refl _ w⟩⟩
 case round =>
  obtain ⟨x, out, hx, hg, rfl, HA, HO, HB⟩ := hrel
  by_cases hlt : x < M
  ·have hltz : (x : Int) < (M : Int) := by omega
   obtain ⟨o2, ho2⟩ := impl_consistent.con_some hHH.out (M - (x + 1)) (x + 1) (by omega)
   have ho2' := ho2
   rw [impl_consistent.con, HA.out, Option.bind_some] at ho2'
   obtain ⟨d, hd, he⟩ := Option.bind_eq_some_iff.mp ho2'
   have he := Option.some.inj he
   have hlen := impl_consistent.con_len HA.out
   obtain ⟨Ao, co, rfl⟩ := Kd.R_slice HO.out
   obtain ⟨W1, hW1⟩ : ∃ W1, W1 = wr.alloc (.cells #[.int .i64 (x : Int)] 3) := ⟨_, rfl⟩
   have hB1 : Below wr.heap.size wr W1 := by rw [hW1]; exact (Below.refl _ _).alloc (Nat.le_refl _) _
   have bx : W1.heap[wr.heap.size]? = some (.cells #[.int .i64 (x : Int)] 3 (0, 0)) := by rw [hW1]; exact blk_new wr _
   have HBX : Aside0 (Below w.heap.size w W1) := ⟨HB.out.trans (hB1.mono HB.out.size)⟩
   have HO1 : Aside0 (∀ W, Below W1.heap.size W1 W → Kd.R (Kd.int .i64) 3 W w.heap.size (fun _ => True) (.slice Ao out.length co) out) := ⟨fun W hb => Kd.R_below (Kd.R_below HO.out hB1) hb⟩
   have BX : Aside0 (∀ W, Below W1.heap.size W1 W → W.heap[wr.heap.size]? = some (.cells #[.int .i64 (x : Int)] 3 (0, 0))) := ⟨fun W hb => blk_below bx hb⟩
   have CD : Aside0 (∀ W, Below W1.heap.size W1 W → Calls Try.prog 57 #[.slice A1 l1.length c1, .int .i64 (x : Int)] W fun e W' => e = .returned (.bool d) ∧ Below W.heap.size W W') := ⟨fun W hb => impl_decides.calls k A1 c1 l1 (x : Int) d W (Kd.C_below (Kd.C_below HR1.out HBX.out) hb) HC1.out hd⟩
   have CF : Aside0 (∀ W, Below W1.heap.size W1 W → Calls Try.prog 58 #[.slice Ao out.length co, .func (.func 59) #[] #[.pointer (some ⟨wr.heap.size, 0, none⟩)]] W fun e W' => e = .returned (.bool (!impl_consistent.fresh out (x : Int))) ∧ Below W.heap.size W W') := ⟨fun W hb => by
    have hC := (Kd.R_reads' (HO1.out W hb)).2.2
    have hc := slices_ContainsFunc_int_int.call (fun y => Go.bits .andNot .i64 y (x : Int) == 0) 59 #[.pointer (some ⟨wr.heap.size, 0, none⟩)] (enters_of Try.func59 (by kernel_rfl) rfl) Ao co out W hC hC.2.1 (fun y W' _ hb' => impl_consistent.clo y (x : Int) wr.heap.size W' (blk_cell (blk_below (BX.out W hb) hb') 0))
    unfold impl_consistent.fresh
    rw [Bool.not_not]
    exact hc⟩
   have b0 : (wr.alloc (.cells #[.int .i64 (x : Int)] 3)).cell? ⟨wr.heap.size, 0, none⟩ = some (.int .i64 (x : Int)) := by rw [← hW1]; exact blk_cell bx 0
   have HH2 := Aside0.mk ho2; have HE := Aside0.mk he; have HW1 := Aside0.mk hW1; have HX1 := Aside0.mk hB1; have HLEN := Aside0.mk hlen
   generalize impl_consistent.fresh out (x : Int) = fr at CF HE
   clear ho2 ho2' hd he hW1 hB1 bx HA HO hlen
   cases d with
   | false =>
    go_wp2_with (first | (go_at_call 57; rw [← HW1.out]; (with_reducible refine (CD.out _ (Below.refl _ _)).mono ?_); rintro e w2 ⟨rfl, hb2⟩; have HB2 := Aside0.mk hb2; clear hb2))
    go_roundg (M - (x + 1))
    case measure => omega
    case rel =>
     refine ⟨x + 1, o2, by omega, by omega, by go_num, HH2, ?_, ⟨HBX.out.trans (HB2.out.mono HBX.out.size)⟩⟩
     rw [← HE.out, if_neg (by simp)]
     exact ⟨HO1.out _ HB2.out⟩
   | true =>
    cases fr with
    | false =>
     go_wp2_with (first | (go_at_call 57; rw [← HW1.out]; (with_reducible refine (CD.out _ (Below.refl _ _)).mono ?_); rintro e w2 ⟨rfl, hb2⟩; have HB2 := Aside0.mk hb2; clear hb2) | (go_at_call 58; (with_reducible refine (CF.out _ HB2.out).mono ?_); rintro e w3 ⟨rfl, hb3⟩; have HB3 := Aside0.mk (HB2.out.trans (hb3.mono HB2.out.size)); clear hb3))
     go_roundg (M - (x + 1))
     case measure => omega
     case rel =>
      refine ⟨x + 1, o2, by omega, by omega, by go_num, HH2, ?_, ⟨HBX.out.trans (HB3.out.mono HBX.out.size)⟩⟩
      rw [← HE.out, if_neg (by simp)]
      exact ⟨HO1.out _ HB3.out⟩
    | true =>
     go_wp2_with (first | (go_at_call 57; rw [← HW1.out]; (with_reducible refine (CD.out _ (Below.refl _ _)).mono ?_); rintro e w2 ⟨rfl, hb2⟩; have HB2 := Aside0.mk hb2; clear hb2) | (go_at_call 58; (with_reducible refine (CF.out _ HB2.out).mono ?_); rintro e w3 ⟨rfl, hb3⟩; have HB3 := Aside0.mk (HB2.out.trans (hb3.mono HB2.out.size)); clear hb3; have b3 : w3.cell? ⟨wr.heap.size, 0, none⟩ = some (.int .i64 (x : Int)) := blk_cell (BX.out _ HB3.out) 0; have HO3 := Aside0.mk (HO1.out _ HB3.out); have HBB := Aside0.mk (HBX.out.trans (HB3.out.mono HBX.out.size))) | ((with_reducible refine gate_builtin (b := .append) (xs := #[.tmp 21, .tmp 23]) rfl ?_); at_builtin; refine Kd.R_append (Kd.int .i64) (w0 := w) w.heap.size rfl (.tmp 21) (.tmp 23) 27 3 (.int .i64 0) 8 rfl Try.underlying27 info3 rfl (by decide) (by omega) (.slice Ao out.length co) out (x : Int) [.int .i64 (x : Int)] (fun _ => True) (fun _ => False) rfl rfl ?aP (fun _ hk => hk.elim) ?aF ?aO ?aB ?aS ?aL ?_; (case aP => exact rfl); (case aB => exact (by repeat (first | (with_reducible first | exact HBB.out | apply below_alloc | apply pw_below_drewN | apply below_drew1) | exact HBB.out))); (case aF => exact (fun _ _ => trivial)); (case aO => exact (by (with_reducible repeat (first | apply Kd.R_alloc | apply Kd.R_drewN | apply Kd.R_drew)); exact HO3.out)); (case aS => exact (below_size (by repeat (first | (with_reducible first | exact HBB.out | apply below_alloc | apply pw_below_drewN | apply below_drew1) | exact HBB.out)))); (case aL => have := HLEN.out; omega); intro v133 w19 ho hb hg hat; have HO4 := Aside0.mk ho; have HB4 := Aside0.mk hb; clear ho hb hg hat))
     go_roundg (M - (x + 1))
     case measure => omega
     case rel =>
      refine ⟨x + 1, o2, by omega, by omega, by go_num, HH2, ?_, HB4⟩
      rw [← HE.out, if_pos (by simp)]
      exact HO4
  ·obtain rfl : x = M := by omega
   have hre : r = out := Option.some.inj (hHH.out.symm.trans HA.out)
   subst hre
   go_wp2
   go_ret
   exact ⟨_, rfl, HO.out, HB.out⟩
theorem impl_consistent.calls (k : Nat) (a0 : Int) (A1 : Option Addr) (c1 : Nat) (l1 : List (S57)) (r : List Int) (w : World) (hr1 : Kd.C k57 w A1 l1.length l1) (hc1 : l1.length ≤ c1) (h : impl_consistent.f k a0 l1 = some r) :
  Calls Try.prog 32 #[.int .i64 a0, .slice A1 l1.length c1] w fun e w' => ∃ v0_ : Value, e = .returned v0_ ∧ Kd.R (Kd.int .i64) 3 w' w.heap.size (fun _ => True) v0_ r ∧ Below w.heap.size w w' := by
 unfold impl_consistent.f at h
 by_cases hb : 0 ≤ a0 ∧ a0 ≤ 5
 ·rw [if_pos hb] at h
  obtain ⟨n, rfl⟩ := nat_of hb.1
  rw [Int.toNat_natCast] at h
  exact impl_consistent.good k n (by omega) (2 ^ n) rfl A1 c1 l1 r w hr1 hc1 h
 ·rw [if_neg hb] at h; cases h
end Go.Proofs.Ytonaebjpnmiilaa.Print
