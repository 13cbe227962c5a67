/- Functions of the given program as plain Lean functions, with proofs that their calls compute them, or lemmas on these. Laid by a program of this repo for the seat Ythkdjccjcpneiaa; Lean checks it. -/
import Derived.Test.YthkdjccjcpneiaaKExactFormatSum0
import Derived.Test.YthkdjccjcpneiaaKExactFormatSum5
import Derived.Test.YthkdjccjcpneiaaKExactFormatSum6
import Derived.Test.YthkdjccjcpneiaaM5
import Derived.Laws.MakeOwn
import Derived.Lib.Join
namespace Go.Proofs.Ythkdjccjcpneiaa.Print
open Go.RowKit Go.Proofs.YthkdjccjcpneiaaW.PrintWords Go.Proofs.YthkdjccjcpneiaaW.PrintLast Go.Proofs.YthkdjccjcpneiaaW.PrintMore
attribute [local go_sem] max2_int min2_int max_two min_two max_three min_three max_four min_four   -- for this text's walks alone
set_option linter.unusedVariables false
set_option linter.unusedSimpArgs false

--OWNPART
/-! ### impl_joinTerms: function 46 -/
--IMPORT M5
--IMPORT Derived.Laws.MakeOwn
--IMPORT Derived.Lib.Join
open Go.Proofs.Ythkdjccjcpneiaa.M
theorem impl_joinTerms.inf : Try.prog.info? 9 = some Try.t9 := by kernel_rfl
/-- the terms' texts -/
def impl_joinTerms.words (q : Nat) (n : Int) : List (S54) → Option (List ByteArray)
  | [] => some []
  | x :: t => (impl_FormatTerm.f q n x.f0 x.f1).bind fun s => (impl_joinTerms.words q n t).bind fun r => some (s :: r)
def impl_joinTerms.f (q : Nat) (a0 : Int) (l1 : List (S54)) (a2 : ByteArray) : Option (ByteArray) :=
  if l1.length ≤ 1000 then (impl_joinTerms.words q a0 l1).bind fun ws => if (Go.Lib.join (ws.map (·.data.toList)) a2.data.toList).length ≤ 1000000 then some ⟨(Go.Lib.join (ws.map (·.data.toList)) a2.data.toList).toArray⟩ else none else none
theorem impl_joinTerms.words_mono (n : Int) (k : Nat) : ∀ l, LeO (impl_joinTerms.words k n l) (impl_joinTerms.words (k + 1) n l)
  | [] => LeO.refl _
  | x :: t => LeO.bind (impl_FormatTerm.mono _ _ _ _) (fun _ => LeO.bind (impl_joinTerms.words_mono n k t) (fun _ => LeO.refl _))
theorem impl_joinTerms.mono : ∀ a0 l1 a2 k, LeO (impl_joinTerms.f k a0 l1 a2) (impl_joinTerms.f (k + 1) a0 l1 a2) := by
  intro a l s k
  unfold impl_joinTerms.f
  exact LeO.ite (LeO.bind (impl_joinTerms.words_mono _ _ _) (fun _ => LeO.refl _)) (LeO.refl _)
theorem impl_joinTerms.words_len {q : Nat} {n : Int} : ∀ {l : List (S54)} {ws : List ByteArray}, impl_joinTerms.words q n l = some ws → ws.length = l.length
  | [], ws, h => by injection h with h; subst h; rfl
  | x :: t, ws, h => by
    obtain ⟨s, hs, h⟩ := Option.bind_eq_some_iff.mp h
    obtain ⟨r, hr, h⟩ := Option.bind_eq_some_iff.mp h
    injection h with h
    subst h
    simp [impl_joinTerms.words_len hr]
theorem impl_joinTerms.words_at {q : Nat} {n : Int} : ∀ {l : List (S54)} {ws : List ByteArray}, impl_joinTerms.words q n l = some ws → ∀ i, i < l.length → impl_FormatTerm.f q n (l.getD i z54).f0 (l.getD i z54).f1 = some (ws.getD i ⟨#[]⟩)
  | [], ws, h, i, hi => by simp at hi
  | x :: t, ws, h, i, hi => by
    obtain ⟨s, hs, h⟩ := Option.bind_eq_some_iff.mp h
    obtain ⟨r, hr, h⟩ := Option.bind_eq_some_iff.mp h
    injection h with h
    subst h
    cases i with
    | zero => exact hs
    | succ i =>
      have := impl_joinTerms.words_at hr i (by simpa using hi)
      simpa using this
/-- the row of texts: the first i are written -/
def impl_joinTerms.Row (g N : Nat) (ws : List ByteArray) (i : Nat) (W : World) : Prop := ∃ C : Array Value, W.heap[g]? = some (.cells C 9 (0, 0)) ∧ C.size = N ∧ ∀ j, j < i → C[j]? = some (.string (ws.getD j ⟨#[]⟩))
theorem impl_joinTerms.Row.blk {g N : Nat} {ws : List ByteArray} {i : Nat} {W W' : World} (h : impl_joinTerms.Row g N ws i W) (hb : W'.heap[g]? = W.heap[g]?) : impl_joinTerms.Row g N ws i W' := by
  obtain ⟨C, h1, h2, h3⟩ := h
  exact ⟨C, hb.trans h1, h2, h3⟩
theorem impl_joinTerms.Row.lt {g N : Nat} {ws : List ByteArray} {i : Nat} {W : World} (h : impl_joinTerms.Row g N ws i W) : g < W.heap.size := by
  obtain ⟨C, h1, _⟩ := h
  exact blk_lt h1
theorem impl_joinTerms.Row.below {g N : Nat} {ws : List ByteArray} {i : Nat} {W W' : World} (h : impl_joinTerms.Row g N ws i W) (hb : Below W.heap.size W W') : impl_joinTerms.Row g N ws i W' := h.blk (hb.block g h.lt)
theorem impl_joinTerms.Row.cell {g N : Nat} {ws : List ByteArray} {i : Nat} {W : World} (h : impl_joinTerms.Row g N ws i W) (j : Nat) (hj : j < N) : (∃ u, W.cell? ⟨g, j, none⟩ = some u) ∧ W.frozen? ⟨g, j, none⟩ = false := by
  obtain ⟨C, h1, h2, _⟩ := h
  exact ⟨⟨C[j]'(by omega), by rw [blk_cell h1]; exact Array.getElem?_eq_getElem (by omega)⟩, blk_frozen h1 j⟩
theorem impl_joinTerms.Row.set {g N : Nat} {ws : List ByteArray} {i : Nat} {W : World} (h : impl_joinTerms.Row g N ws i W) (hi : i < N) : impl_joinTerms.Row g N ws (i + 1) (W.setCell ⟨g, i, none⟩ (.string (ws.getD i ⟨#[]⟩))) := by
  obtain ⟨C, h1, h2, h3⟩ := h
  refine ⟨_, blk_set h1 i _, by simpa using h2, fun j hj => ?_⟩
  rw [Array.getElem?_setIfInBounds]
  by_cases e : i = j
  · subst e; rw [if_pos rfl, if_pos (by omega)]
  · rw [if_neg e]; exact h3 j (by omega)
theorem impl_joinTerms.Row.read {g N : Nat} {ws : List ByteArray} {W : World} (h : impl_joinTerms.Row g N ws N W) (hN : ws.length = N) : ∀ (j : Nat) x, ws[j]? = some x → W.cell? ⟨g, 0 + j, none⟩ = some (.string x) := by
  obtain ⟨C, h1, h2, h3⟩ := h
  intro j x hx
  have hj : j < ws.length := (List.getElem?_eq_some_iff.mp hx).1
  rw [Nat.zero_add, blk_cell h1, h3 j (by omega), List.getD_eq_getElem?_getD, hx]; rfl
set_option maxHeartbeats 4000000 in
set_option maxRecDepth 100000 in
theorem impl_joinTerms.call (q N : Nat) (a0 : Int) (A1 : Option Addr) (c1 : Nat) (l1 : List (S54)) (ws : List ByteArray) (a2 : ByteArray) (w : World) (hN : N = l1.length) (hr1 : Kd.C k54 w A1 N l1) (hl : N ≤ 1000) (hws : impl_joinTerms.words q a0 l1 = some ws) (hj : (Go.Lib.join (ws.map (·.data.toList)) a2.data.toList).length ≤ 1000000) :
    Calls Try.prog 46 #[.int .i64 a0, .slice A1 N c1, .string a2] w fun e w' => e = .returned (.string ⟨(Go.Lib.join (ws.map (·.data.toList)) a2.data.toList).toArray⟩) ∧ Below w.heap.size w w' := by
  have huT := Try.underlying54
  have huS := Try.underlying87
  have hwl : ws.length = N := by rw [hN]; exact impl_joinTerms.words_len hws
  have HR := Aside0.mk hr1
  have HW := Aside0.mk (fun i (hi : i < N) => impl_joinTerms.words_at hws i (by omega))
  have hmk : ∀ W, (Instr.makeSlice 87 (.int .i64 (N : Int)) (.int .i64 (N : Int))).run Try.prog W = .ok (.slice (some ⟨W.heap.size, 0, none⟩) N N) (W.alloc (.cells (madeCells (Value.string ⟨#[]⟩).cells (N * 1)) 9)) := fun W => by
    have := run_make (P := Try.prog) W 87 9 _ (.string ⟨#[]⟩) Try.underlying87 impl_joinTerms.inf rfl .i64 .i64 (N : Int) (N : Int) (by omega) (by omega) (by show (16 : Int) * _ ≤ _; omega) (by omega)
    exact this
  have hC : (madeCells (Value.string ⟨#[]⟩).cells (N * 1)).size = N := by rw [size_madeCells]; omega
  obtain ⟨C0, hC0⟩ : ∃ C0, C0 = madeCells (Value.string ⟨#[]⟩).cells (N * 1) := ⟨_, rfl⟩
  rw [← hC0] at hC hmk
  have HR0 : Aside0 (impl_joinTerms.Row w.heap.size N ws 0 (w.alloc (.cells C0 9))) := ⟨⟨C0, blk_new w _, hC, fun j hj => absurd hj (Nat.not_lt_zero _)⟩⟩
  have HB0 : Aside0 (Below w.heap.size w (w.alloc (.cells C0 9))) := ⟨(Below.refl _ _).alloc (Nat.le_refl _) _⟩
  have HWL := Aside0.mk hwl
  have HJ := Aside0.mk hj
  have HNL := Aside0.mk hN
  clear hws hr1 hC0 hC hwl hj hN
  go_enter Try.func46, Try.ntmps46
  go_wp2_with (fail)
  go_loopg [15] N (fun gg v15 wr => ∃ i : Nat, i ≤ N ∧ N - i ≤ gg ∧ v15 = .int .i64 (i : Int) ∧ Aside0 (impl_joinTerms.Row w.heap.size N ws i wr) ∧ Aside0 (Below w.heap.size w wr))
  case atStart => exact ⟨0, Nat.zero_le _, by omega, rfl, HR0, HB0⟩
  case round =>
    clear HR0 HB0
    obtain ⟨i, hi, hg, rfl, HRW, BW⟩ := hrel
    by_cases hlt : i < N
    · have hltz : (i : Int) < (N : Int) := by omega
      obtain ⟨ad, ea, c0, c1⟩ := at_T54 (Kd.C_below HR.out BW.out) (i : Int) (by omega) hltz
      cases ea
      have hy : rd_T54 l1 (i : Int) = l1.getD i z54 := by simp [rd_T54]
      have HF := Aside0.mk (HW.out i hlt)
      rw [← hy] at HF
      generalize rd_T54 l1 (i : Int) = y at c0 c1 HF
      simp only [Int.toNat_natCast] at c0 c1
      have HS : Aside0 (∀ W, Below wr.heap.size wr W → impl_joinTerms.Row w.heap.size N ws (i + 1) (W.setCell ⟨w.heap.size, i, none⟩ (.string (ws.getD i ⟨#[]⟩)))) := ⟨fun W hb => (HRW.out.below hb).set hlt⟩
      generalize ws.getD i ⟨#[]⟩ = s at *
      clear hy
      have HLT := Aside0.mk hlt
      go_wp2_with (first | (go_at_call 58; (with_reducible refine (impl_FormatTerm.calls _ _ _ _ _ _ HF.out).mono ?_); rintro e w1 ⟨rfl, hb⟩; have B1 : Aside0 (Below wr.heap.size wr w1) := ⟨((Below.refl _ _).alloc (Nat.le_refl _) _).trans (hb.mono (by simp))⟩; clear hb; obtain ⟨⟨u0, d0⟩, z0⟩ := (HRW.out.below B1.out).cell i HLT.out))
      go_roundg (N - (i + 1))
      case measure => omega
      case rel => exact ⟨i + 1, by omega, by omega, by go_num, ⟨HS.out _ B1.out⟩, ⟨(BW.out.trans (B1.out.mono BW.out.size)).setCell (p := ⟨w.heap.size, i, none⟩) (Nat.le_refl _) _⟩⟩
    · obtain rfl : i = N := by omega
      have HC : Aside0 (Calls Try.prog 59 #[.slice (some ⟨w.heap.size, 0, none⟩) i i, .string a2] wr fun e w' => e = .returned (.string ⟨(Go.Lib.join (ws.map (·.data.toList)) a2.data.toList).toArray⟩) ∧ Below wr.heap.size wr w') := ⟨by
        have := strings_Join.call w.heap.size 0 i ws a2 wr (HRW.out.read HWL.out) HRW.out.lt (by rw [HWL.out]; omega) (by rw [HWL.out]; omega) (by have := HJ.out; omega)
        rw [HWL.out] at this
        exact this⟩
      go_wp2_with (first | (go_at_call 59; (with_reducible refine HC.out.mono ?_); rintro e w1 ⟨rfl, hb⟩))
      go_ret
      exact ⟨rfl, BW.out.trans (hb.mono BW.out.size)⟩
theorem impl_joinTerms.calls (k : Nat) (a0 : Int) (A1 : Option Addr) (c1 : Nat) (l1 : List (S54)) (a2 : ByteArray) (r : ByteArray) (w : World) (hr1 : Kd.C k54 w A1 l1.length l1) (hc1 : l1.length ≤ c1) (h : impl_joinTerms.f k a0 l1 a2 = some r) :
    Calls Try.prog 46 #[.int .i64 a0, .slice A1 l1.length c1, .string a2] w fun e w' => e = .returned (.string r) ∧ Below w.heap.size w w' := by
  unfold impl_joinTerms.f at h
  by_cases hl : l1.length ≤ 1000
  · rw [if_pos hl] at h
    obtain ⟨ws, hws, h⟩ := Option.bind_eq_some_iff.mp h
    by_cases hj : (Go.Lib.join (ws.map (·.data.toList)) a2.data.toList).length ≤ 1000000
    · rw [if_pos hj] at h
      rw [← Option.some.inj h]
      exact impl_joinTerms.call k l1.length a0 A1 c1 l1 ws a2 w rfl hr1 hl hws hj
    · rw [if_neg hj] at h; cases h
  · rw [if_neg hl] at h; cases h


end Go.Proofs.Ythkdjccjcpneiaa.Print
