/- Proved: the law FnExactFormatSum of the given program returns true for every input, and its arguments read behind the call as before. No conditions. -/
import Derived.Test.YthkdjccjcpneiaaRows
import Derived.Test.YthkdjccjcpneiaaKExactFormatSum8
import Derived.Test.YthkdjccjcpneiaaPureFnExactFormatSum
import Derived.WalkKit
import Derived.ProofKit
import Derived.OpenShut
import Derived.ShutString
import Derived.ChangeOld
import Derived.Below
import Derived.SizedLaws
import Derived.Lib.SmallJoins
import Derived.Deep.SlicePairs
import Derived.ChangeSame
import Derived.Test.YthkdjccjcpneiaaWSized
namespace Go.Proofs.Ythkdjccjcpneiaa.fnExactFormatSum
open Go.ChangeShapes Go.WideShapes Go.ChangeAt Go.RowKit Go.Joins Go.Deep
open Go.Proofs.YthkdjccjcpneiaaW.PrintWords Go.Proofs.Ythkdjccjcpneiaa.Print
open Go.ChangeMaps (open_string shut_string)
set_option linter.unusedVariables false
theorem own : ownKnob Try.prog.godebug = none := by kernel_rfl
theorem laidOut : laidOutB Try.prog = true := by kernel_rfl
def IsRow (k : IntKind) (w : World) (a : Option Addr) (len cap : Nat) (zs : List Int) : Prop :=
  (a = none ∧ len = 0 ∧ cap = 0 ∧ zs = []) ∨
  ∃ x, a = some x ∧ len ≤ cap ∧ cap ≤ maxLen ∧ zs.length = cap ∧ (∀ i, i < zs.length → w.cell? (x.add i) = some (.int k (zs.getD i 0))) ∧ ∀ n ∈ zs, (Lit.int k n).wf = true
set_option maxRecDepth 100000 in
theorem lifted (os : Os) (started : os.Started) (H : Type) (enc : TypeId × Value → H) :
    ReturnsInHanded {} Try.checked os 5 .any (Rows.fnExactFormatSumSpec.pre6 enc Try.prog Try.f5 Rows.fnExactFormatSumRow.domain false) (Rows.fnExactFormatSumSpec.post enc Try.prog Try.f5 false true false false) := by
  refine returnsInHanded_of_change_sized (C := Try.checked) own started (by kernel_rfl) Try.func5
    (ChangeSpec.witness6 (enc := enc) (C := Try.checked) false ⟨#[], #[.int .i64 0, .slice none 0 0], []⟩ 8 (by kernel_rfl) (by kernel_rfl) (by kernel_rfl) (by kernel_rfl)) ?_
  intro W base args ds gs before hval0 hW hcnd hsz0 _
  have hsz : (DataW.weightsEach Try.prog (Try.f5.params.toList ++ Rows.fnExactFormatSumSpec.plain.varTypes Try.prog) (ds ++ gs)).all (· ≤ reachBytes) = true := hsz0
  have hval : ∀ (j : Nat) t v, Try.f5.params[j]? = some t → args[j]? = some v → Value.okWide Try.prog W .any base t v := hval0
  have hW' := hW
  obtain ⟨p, q, hA0, hV, rfl, hfz, hnd⟩ := hW
  have hA : DataW.TrodAll enc Try.prog W 0 (fun _ => true) true Try.f5.params.toList args.toList ds p := hA0
  rw [Try.params5] at hA hval hsz
  obtain ⟨v0, vs0, d0, ds0, p0, q0, hargs, rfl, rfl, h0, r0⟩ := trodAll_cons hA
  obtain ⟨v1, vs1, d1, ds1, p1, q1, rfl, rfl, rfl, h1, r1⟩ := trodAll_cons r0
  obtain ⟨rfl, rfl, rfl⟩ := trodAll_nil r1
  obtain rfl : args = #[v0, v1] := by cases args; simp_all
  obtain ⟨rfl, rfl⟩ := trodVars_none hV
  obtain ⟨a0, rfl, rfl, rfl, w0⟩ := open_int Try.underlying3 (hval 0 3 v0 rfl rfl) h0
  obtain ⟨A1, n1, c1, rfl⟩ := okWide_slice Try.underlying28 (hval 1 28 v1 rfl rfl)
  have k1 := h1
  have lt1 : ∀ x ∈ p1, x.block < W.heap.size := by obtain ⟨m, hm⟩ := k1; exact DataW.trod_lt m _ _ _ hm
  obtain ⟨l1, rfl, hr1, hc1, hm1, w1⟩ : ∃ l : List (S56), n1 = l.length ∧ Kd.C k56 W A1 l.length l ∧ l.length ≤ c1 ∧ l.length ≤ maxLen ∧ (∀ x ∈ l, (Lit.int .i64 x.f0).wf = true ∧ (Lit.int .i64 x.f1).wf = true) := by
    obtain ⟨fuel, hf⟩ := h1
    rcases open_slice_pairs Try.underlying28 Try.underlying56 (by kernel_rfl) rfl rfl (by kernel_rfl) (by kernel_rfl) hf with ⟨hcs, _⟩ | ⟨x, len, cap, m, nf, V0, V1, D0, D1, P0, P1, hcs, _, hl, hm, hmm, _, hx⟩
    · simp [Value.cells] at hcs
      obtain ⟨rfl, rfl, rfl⟩ := hcs
      exact ⟨[], rfl, ⟨rfl, by simp, fun h_ => by simp at h_⟩, by simp, by simp, by simp⟩
    · simp [Value.cells] at hcs
      obtain ⟨rfl, rfl, rfl⟩ := hcs
      have hlm : n1 ≤ m := by rw [hmm]; split <;> omega
      have hv : ∀ j, j < n1 → ∃ x0 x1 : Int, V0 j = .int .i64 x0 ∧ V1 j = .int .i64 x1 ∧ (Lit.int .i64 x0).wf = true ∧ (Lit.int .i64 x1).wf = true := fun j hj => by
        obtain ⟨_, _, g0, g1⟩ := hx j (by omega)
        obtain ⟨x0, e0, _, u0⟩ := DataW.trod_int Try.underlying3 g0
        obtain ⟨x1, e1, _, u1⟩ := DataW.trod_int Try.underlying3 g1
        exact ⟨x0, x1, by simpa using e0, by simpa using e1, u0, u1⟩
      have hV : ∃ f : Nat → S56, ∀ j, j < n1 → V0 j = .int .i64 (f j).f0 ∧ V1 j = .int .i64 (f j).f1 ∧ (Lit.int .i64 (f j).f0).wf = true ∧ (Lit.int .i64 (f j).f1).wf = true := by
        have hv' : ∀ j, ∃ z : S56, j < n1 → V0 j = .int .i64 z.f0 ∧ V1 j = .int .i64 z.f1 ∧ (Lit.int .i64 z.f0).wf = true ∧ (Lit.int .i64 z.f1).wf = true := fun j => by
          by_cases hj : j < n1
          · obtain ⟨x0, x1, e⟩ := hv j hj; exact ⟨⟨x0, x1⟩, fun _ => e⟩
          · exact ⟨⟨0, 0⟩, fun h_ => absurd h_ hj⟩
        exact ⟨fun j => Classical.choose (hv' j), fun j => Classical.choose_spec (hv' j)⟩
      obtain ⟨f, hf'⟩ := hV
      have hlen : ((List.range n1).map f).length = n1 := by simp
      refine ⟨(List.range n1).map f, hlen.symm, ⟨rfl, by rw [hlen]; unfold maxLen at hm; omega, fun _ => ⟨_, rfl, fun j p hj => ?_⟩⟩, by rw [hlen]; exact hl, by rw [hlen]; omega, ?_⟩
      · rw [List.getElem?_map] at hj
        obtain ⟨j', hj1, rfl⟩ := Option.map_eq_some_iff.mp hj
        obtain ⟨hjl, rfl⟩ : j < n1 ∧ j = j' := by
          have h_ := List.getElem?_eq_some_iff.mp hj1; obtain ⟨h1, h2⟩ := h_; simp at h1 h2; exact ⟨h1, h2⟩
        obtain ⟨q0, q1, _, _⟩ := hx j (by omega)
        obtain ⟨e0, e1, _, _⟩ := hf' j hjl
        refine ⟨_, rfl, k56_mk W (f j), fun i u hu => ?_⟩
        match i, hu with
        | 0, hu => simp at hu; subst hu; rw [← e0]; exact q0
        | 1, hu => simp at hu; subst hu; rw [← e1]; exact q1
        | i + 2, hu => simp at hu
      · intro x hx'
        obtain ⟨j, hj, rfl⟩ := List.mem_map.mp hx'
        obtain ⟨_, _, u0, u1⟩ := hf' j (by simpa using hj)
        exact ⟨u0, u1⟩
  clear hA0 hval0 hsz0 hsz
  refine (Print.laws_FnExactFormatSum.walk Pure.FnExactFormatSum a0 A1 c1 l1 W w0 hr1 hc1 hm1 w1).mono fun e W' ⟨he, bel⟩ => ?_
  subst he
  exact ⟨_, rfl, _, _, _, [], _, [], hW', trodAll_mk1 (shut_bool Try.underlying4 _), (trodAll_cons_mk (shut_int Try.underlying3 w0) (trodAll_cons_mk (Below.trod laidOut (by kernel_rfl) (of_decide_eq_true (by kernel_rfl)) k1 bel lt1) trodAll_mk0)), rfl, bel.frame _, fun h => by cases h⟩
theorem over : Rows.fnExactFormatSumRow.holds Try.pinned (OpenSpec.ofChange Rows.fnExactFormatSumSpec) :=
  OpenClaim.holds_of_wide 5 Try.f5 rfl rfl rfl rfl rfl rfl rfl ⟨rfl, rfl, rfl, rfl, rfl⟩ rfl rfl rfl rfl rfl (by kernel_rfl) Try.func5 (by kernel_rfl)
    (of_decide_eq_true (by kernel_rfl)) (by unfold Func.isWrapper; first | (rw [if_pos (by decide +kernel)]; kernel_rfl) | (rw [if_neg (by decide +kernel)]; exact ⟨rfl, rfl⟩))
    (fun os started H enc _ => lifted os started H enc)
theorem proved : Rows.FnExactFormatSumSaid := over
#print axioms proved
end Go.Proofs.Ythkdjccjcpneiaa.fnExactFormatSum
namespace Go.Proofs.Ythkdjccjcpneiaa
/-- The row, under a short name, for the claim. -/
theorem fnExactFormatSum_holds : Rows.FnExactFormatSumSaid := fnExactFormatSum.proved
end Go.Proofs.Ythkdjccjcpneiaa
