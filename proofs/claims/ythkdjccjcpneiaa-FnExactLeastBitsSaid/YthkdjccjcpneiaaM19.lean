/- Maps that remember what was reckoned: no program in sight. -/
import Derived.Test.YthkdjccjcpneiaaM0
import Derived.Maps.OwnSet
namespace Go.Proofs.Ythkdjccjcpneiaa.M
open Go Go.ChangeMaps Go.MapKept Go.RowKit Go.Proofs.YthkdjccjcpneiaaW.PrintWords Go.Proofs.YthkdjccjcpneiaaW.PrintLast
open Go.WideElems (Fit rd rg pl rd_val elemAt)
open Go.Maps (Keyed)
set_option linter.unusedVariables false

/-- block b is a map each of whose entries bears what G asks of it -/
def Memo (P : Program) (k e : TypeId) (G : Value → Value → Prop) (w : World) (b : Nat) : Prop :=
  ∃ es clock, w.heap[b]? = some (.map es clock) ∧ Fit P k (plainElem (H := Unit) P e) es clock ∧ ∀ x ∈ es.toList, G x.key x.val

variable {P : Program} {k e t : TypeId} {G : Value → Value → Prop} {w w' : World} {b : Nat}

theorem Memo.made (w : World) (P : Program) (k e : TypeId) (G : Value → Value → Prop) : Memo P k e G (w.alloc (.map #[] 0)) w.heap.size :=
  ⟨#[], 0, (MapKept.heap_alloc w _).1, ⟨by simp, stamped_empty 0, by simp⟩, fun x hx => by simp at hx⟩
theorem Memo.empty (h : w.heap[b]? = some (.map #[] 0)) : Memo P k e G w b := ⟨#[], 0, h, ⟨by simp, stamped_empty 0, by simp⟩, fun x hx => by simp at hx⟩
theorem Memo.blk (h : Memo P k e G w b) (hb : w'.heap[b]? = w.heap[b]?) : Memo P k e G w' b := by
  obtain ⟨es, clock, hb', F, hG⟩ := h
  exact ⟨es, clock, hb.trans hb', F, hG⟩
theorem Memo.lt (h : Memo P k e G w b) : b < w.heap.size := by
  obtain ⟨es, clock, hb, _⟩ := h
  exact (Array.getElem?_eq_some_iff.1 hb).1
theorem Memo.drewN (h : Memo P k e G w b) (d : Nat) : Memo P k e G (w.drewN d) b := h.blk (by simp)
theorem Memo.drew (h : Memo P k e G w b) : Memo P k e G w.drew b := h
theorem Memo.below (h : Memo P k e G w b) (hb : Below w.heap.size w w') : Memo P k e G w' b := h.blk (hb.block b h.lt)
theorem Memo.alloc (h : Memo P k e G w b) (o : Obj) : Memo P k e G (w.alloc o) b := h.blk (Below.heap_alloc w o b h.lt)
theorem Memo.setCell (h : Memo P k e G w b) {p : Addr} (hp : b ≠ p.block) (u : Value) : Memo P k e G (w.setCell p u) b := h.blk (Below.heap_setCell w p u b hp)

/-- looking up: nothing, or what G asks -/
theorem Memo.look (h : Memo P k e G w b) (K : Keyed P k) (ht : P.underlying t = some (.map k e)) {z : Value} (hz : (zeroValue e).run P w = .ok z w) {key : Value} {kl : Lit} (hkey : keyOf P k key = some kl) :
    ((Instr.lookup t (.map (some b)) key true).run P w = .ok (.tuple #[z, .bool false]) w) ∨ ∃ v, G key v ∧ (Instr.lookup t (.map (some b)) key true).run P w = .ok (.tuple #[v, .bool true]) w := by
  obtain ⟨es, clock, hb, F, hG⟩ := h
  rcases Maps.fit_look true K ht hz hb F hkey with ⟨hrun, _, _⟩ | ⟨e0, y, hm, hk, hrun, _⟩
  · exact .inl hrun
  · refine .inr ⟨e0.val, ?_, hrun⟩
    have := hG e0 hm
    rw [hk] at this; exact this
theorem one_of_key {es : List MapEntry} (h : es.Pairwise (fun x y => x.key ≠ y.key)) {x y : MapEntry} (hx : x ∈ es) (hy : y ∈ es) (e : x.key = y.key) : x = y := by
  induction es with
  | nil => cases hx
  | cons z t ih =>
    obtain ⟨h1, h2⟩ := List.pairwise_cons.mp h
    rcases List.mem_cons.mp hx with ex | hx2
    · rcases List.mem_cons.mp hy with ey | hy2
      · rw [ex, ey]
      · rw [ex] at e; exact absurd e (h1 y hy2)
    · rcases List.mem_cons.mp hy with ey | hy2
      · rw [ey] at e; exact absurd e.symm (h1 x hx2)
      · exact ih h2 hx2 hy2
/-- .. alike in all worlds with these blocks -/
theorem Memo.look_all (h : Memo P k e G w b) (K : Keyed P k) (ht : P.underlying t = some (.map k e)) {z : Value} (hz : ∀ w, (zeroValue e).run P w = .ok z w) {key : Value} {kl : Lit} (hkey : keyOf P k key = some kl) :
    (∀ W, W.heap[b]? = w.heap[b]? → (Instr.lookup t (.map (some b)) key true).run P W = .ok (.tuple #[z, .bool false]) W) ∨ ∃ v, G key v ∧ ∀ W, W.heap[b]? = w.heap[b]? → (Instr.lookup t (.map (some b)) key true).run P W = .ok (.tuple #[v, .bool true]) W := by
  obtain ⟨es, clock, hb, F, hG⟩ := h
  have hap := ((stamped_iff es clock).1 F.stamped).2.2
  by_cases hx : ∃ x ∈ es.toList, x.key = key
  · obtain ⟨x, hx, hk⟩ := hx
    refine .inr ⟨x.val, by have := hG x hx; rw [hk] at this; exact this, fun W hW => ?_⟩
    rcases Maps.fit_look true K ht (hz W) (hW.trans hb) F hkey with ⟨_, hno, _⟩ | ⟨e0, y, hm, hk0, hrun, _⟩
    · exact absurd hk (hno x hx)
    · rw [one_of_key hap hx hm (hk.trans hk0.symm)]; exact hrun
  · refine .inl fun W hW => ?_
    rcases Maps.fit_look true K ht (hz W) (hW.trans hb) F hkey with ⟨hrun, _, _⟩ | ⟨e0, y, hm, hk0, _⟩
    · exact hrun
    · exact absurd ⟨e0, hm, hk0⟩ hx
/-- apart, and all in a list: not more than the list -/
theorem apart_le {α : Type} : ∀ (l L : List α), l.Pairwise (· ≠ ·) → (∀ x ∈ l, x ∈ L) → l.length ≤ L.length
  | [], L, _, _ => Nat.zero_le _
  | x :: t, L, h, hl => by
    obtain ⟨h1, h2⟩ := List.pairwise_cons.mp h
    obtain ⟨s, r, rfl⟩ := List.append_of_mem (hl x (List.mem_cons_self ..))
    have := apart_le t (s ++ r) h2 (fun y hy => by
      have h3 := hl y (List.mem_cons_of_mem _ hy)
      rcases List.mem_append.mp h3 with h3 | h3
      · exact List.mem_append_left _ h3
      · rcases List.mem_cons.mp h3 with h3 | h3
        · exact absurd h3.symm (h1 y hy)
        · exact List.mem_append_right _ h3)
    simp only [List.length_cons, List.length_append] at this ⊢
    omega
/-- storing what G asks, where G leaves but few keys -/
theorem Memo.store (h : Memo P k e G w b) (K : Keyed P k) (ht : P.underlying t = some (.map k e)) {L : List Value} (hL : ∀ x y, G x y → x ∈ L) (hn : L.length < maxLen) {key : Value} {kl : Lit} {q : IntKind} {a : Int} (he : P.underlying e = some (.int q)) (hw : (Lit.int q a).wf = true) (hkey : keyOf P k key = some kl) (hG' : G key (.int q a)) :
    ∃ w', (Instr.mapUpdate t (.map (some b)) key (.int q a)).run P w = .ok () w' ∧ Memo P k e G w' b ∧ w.mapTurned w' b := by
  obtain ⟨es, clock, hb, F, hG⟩ := h
  have hsz : es.size < maxLen := by
    have hp : (es.toList.map (fun x => x.key)).Pairwise (· ≠ ·) := by
      rw [List.pairwise_map]
      exact ((stamped_iff es clock).1 F.stamped).2.2
    have := apart_le _ L hp (fun x hx => by
      obtain ⟨y, hy, rfl⟩ := List.mem_map.mp hx
      exact hL _ _ (hG y hy))
    simp at this
    omega
  obtain ⟨es', clock', hrun, F', hput, _, _, hwho⟩ := Maps.fit_store (R' := plainElem (H := Unit) P e) K ht hb F hsz (fun _ _ _ _ hz => hz) hkey (plainElem_int he hw)
  refine ⟨_, hrun, ⟨es', clock', heap_setBlock_same hb _, F', ?_⟩, ⟨es, clock, es', clock', hb, rfl⟩⟩
  intro x hx
  rcases hwho x hx with ⟨h1, _⟩ | ⟨h1, h2⟩
  · exact hG x h1
  · rw [h1, h2]; exact hG'
theorem min_val (b R0 R1 : Nat) (h0 : R0 ≤ 100) (h1 : R1 ≤ 100) : (if IntKind.i64.wrap (1 + if R0 < R1 then (R1 : Int) else (R0 : Int)) < (b : Int) then IntKind.i64.wrap (1 + if R0 < R1 then (R1 : Int) else (R0 : Int)) else (b : Int)) = ((min b (1 + max R0 R1) : Nat) : Int) := by
  have e : (if R0 < R1 then (R1 : Int) else (R0 : Int)) = ((max R0 R1 : Nat) : Int) := by split <;> omega
  rw [e, wi64 _ (by omega) (by omega)]
  split <;> omega
theorem bool_not {a b : Bool} (h : ¬ a = b) : a = !b := by revert h; cases a <;> cases b <;> simp
theorem wf_nat {a : Nat} (h : a < 2 ^ 63) : (Lit.int .i64 (a : Int)).wf = true := by
  simp only [Lit.wf, Bool.and_eq_true, decide_eq_true_eq]
  have h1 : IntKind.i64.min = -9223372036854775808 := by decide
  have h2 : IntKind.i64.max = 9223372036854775807 := by decide
  rw [h1, h2]; omega
/-- nothing but block b and blocks that are new has turned -/
structure But (b : Nat) (w w' : World) : Prop where
  os : w'.os = w.os
  tape : w'.tape = w.tape
  output : w'.output = w.output
  size : w.heap.size ≤ w'.heap.size
  block : ∀ i, i < w.heap.size → i ≠ b → w'.heap[i]? = w.heap[i]?
theorem But.refl (b : Nat) (w : World) : But b w w := ⟨rfl, rfl, rfl, Nat.le_refl _, fun _ _ _ => rfl⟩
theorem But.trans {w'' : World} (h : But b w w') (h' : But b w' w'') : But b w w'' :=
  ⟨h'.os.trans h.os, h'.tape.trans h.tape, h'.output.trans h.output, Nat.le_trans h.size h'.size, fun i hi hb => (h'.block i (Nat.lt_of_lt_of_le hi h.size) hb).trans (h.block i hi hb)⟩
theorem But.of_below (h : Below w.heap.size w w') : But b w w' := ⟨h.os, h.tape, h.output, h.size, fun i hi _ => h.block i hi⟩
theorem But.of_turned (h : w.mapTurned w' b) : But b w w' := by
  have g := h.grown
  exact ⟨g.os, g.tape, g.output, g.size, fun i hi hb => g.block i hi (fun e => hb (by injection e))⟩
theorem But.below {B : Nat} (h : But b w w') (hB : B ≤ b) (hw : B ≤ w.heap.size) : Below B w w' :=
  ⟨h.os, h.tape, h.output, h.size, fun i hi => h.block i (by omega) (by omega)⟩
theorem But.blk {g : Nat} {o : Obj} (h : But b w w') (hg : g ≠ b) (hb : w.heap[g]? = some o) : w'.heap[g]? = some o := (h.block g (Array.getElem?_eq_some_iff.1 hb).1 hg).trans hb
theorem But.drewN (h : But b w w') (d : Nat) : But b w (w'.drewN d) := h.trans (.of_below (pw_below_drewN (Below.refl _ _) d))
end Go.Proofs.Ythkdjccjcpneiaa.M
