/- Rows of rows of whole numbers: one row lent, appended to and put back; the run of such an append. No program in sight. -/
import Derived.Test.YtmdpjmcleckedaaDoorM0
import Derived.Test.YtmdpjmcleckedaaDoorWApart
import Derived.Test.YtmdpjmcleckedaaDoorWRepsOne
import Derived.Maps.AppendAt
namespace Go.Proofs.YtmdpjmcleckedaaDoor.M
open Go Go.RowKit Go.Proofs.YtmdpjmcleckedaaDoorW.PrintWords Go.Proofs.YtmdpjmcleckedaaDoorW.PrintLast
set_option linter.unusedVariables false
set_option linter.unusedSimpArgs false

/-- row i, read -/
theorem rows_cell {ti ts base g n cap : Nat} {W : World} {ok : Nat → Prop} {xs : List (List Int)} (h : Kd.S (Kd.slice ti (Kd.int .i64)) ts W base ok (.slice (some ⟨g, 0, none⟩) n cap) xs) (i : Nat) (hi : i < n) :
    ∃ A c, W.cell? ⟨g, i, none⟩ = some (.slice A (xs.getD i []).length c) ∧ W.frozen? ⟨g, i, none⟩ = false ∧ (xs.getD i []).length ≤ c ∧ (Kd.int .i64).C W A (xs.getD i []).length (xs.getD i []) := by
  obtain ⟨oki, c, hcl, hM, hcc, hfr, _, _⟩ := Kd.S_elem h [] (i : Int) (by omega) (by omega)
  rw [Int.toNat_natCast] at hM hcc hfr
  obtain ⟨v, rfl, hR⟩ := hM
  obtain ⟨A, c2, rfl, h2, h3⟩ := Kd.R_reads hR
  have h4 := hcc 0 _ rfl
  have h5 := hfr 0
  simp only [Kd.slice, Nat.mul_one, Nat.add_zero] at h4 h5
  exact ⟨A, c2, h4, h5, h2, h3⟩
/-- number j of row i, read -/
theorem rows_elem {ti ts base g n cap : Nat} {W : World} {ok : Nat → Prop} {xs : List (List Int)} (h : Kd.S (Kd.slice ti (Kd.int .i64)) ts W base ok (.slice (some ⟨g, 0, none⟩) n cap) xs) (i : Nat) (hi : i < n) (j : Nat) (hj : j < (xs.getD i []).length) :
    ∃ g1 c, W.cell? ⟨g, i, none⟩ = some (.slice (some ⟨g1, 0, none⟩) (xs.getD i []).length c) ∧ W.cell? ⟨g1, j, none⟩ = some (.int .i64 (rd (xs.getD i []) (j : Int))) := by
  obtain ⟨oki, c, hcl, hM, hcc, hfr, _, _⟩ := Kd.S_elem h [] (i : Int) (by omega) (by omega)
  rw [Int.toNat_natCast] at hM hcc hfr
  obtain ⟨v, rfl, hR⟩ := hM
  obtain ⟨g1, c2, rfl, _, _, _⟩ := Kd.R_form hR (by omega)
  have h4 := hcc 0 _ rfl
  simp only [Kd.slice, Nat.mul_one, Nat.add_zero] at h4
  have h5 := (Kd.R_celln 0 hR (j : Int) (by omega) (by omega)).1
  rw [Int.toNat_natCast] at h5
  exact ⟨g1, c2, h4, h5⟩
/-- row i lent: what is appended to it alone, stored back, leaves the rows with that one longer -/
theorem rows_lend {ti ts base g n cap : Nat} {W : World} {ok : Nat → Prop} {xs : List (List Int)} (hok : ∀ k, W.heap.size ≤ k → ok k) (h : Kd.S (Kd.slice ti (Kd.int .i64)) ts W base ok (.slice (some ⟨g, 0, none⟩) n cap) xs) (i : Nat) (hi : i < n) :
    ∃ (okw : Nat → Prop) (u : Value), W.cell? ⟨g, i, none⟩ = some u ∧ W.frozen? ⟨g, i, none⟩ = false ∧ (∀ k, W.heap.size ≤ k → okw k) ∧ (∀ k, okw k → ok k ∧ k ≠ g) ∧ (Kd.int .i64).R ti W base okw u (xs.getD i []) ∧
      ∀ (w1 : World) (v1 : Value) (zs : List Int), W.grownBy w1 u.ownBlock → (Kd.int .i64).R ti w1 base okw v1 zs → Kd.S (Kd.slice ti (Kd.int .i64)) ts (w1.setCell ⟨g, i, none⟩ v1) base ok (.slice (some ⟨g, 0, none⟩) n cap) (xs.set i zs) := by
  obtain ⟨oki, c, hcl, hM, hcc, hfr, hoki, hH⟩ := Kd.S_elem h [] (i : Int) (by omega) (by omega)
  rw [Int.toNat_natCast] at hM hcc hfr
  obtain ⟨u, rfl, hR⟩ := hM
  have hgl : g < W.heap.size := Kd.S_lt h g (by simp [Value.ownBlock])
  have h4 := hcc 0 _ rfl
  have h5 := hfr 0
  simp only [Kd.slice, Nat.mul_one, Nat.add_zero] at h4 h5
  have hne : ∀ k, (oki k ∨ ok k ∧ W.heap.size ≤ k) → ok k ∧ k ≠ g := fun k hk => hk.elim (fun h => hoki k h) (fun h => ⟨h.1, by omega⟩)
  refine ⟨fun k => oki k ∨ ok k ∧ W.heap.size ≤ k, u, h4, h5, fun k hk => .inr ⟨hok k hk, hk⟩, hne, Kd.R_mono hR (fun k hk => .inl hk), ?_⟩
  intro w1 v1 zs hg hr
  have hv := Kd.R_val hr
  have h6 := Kd.H_grown (Kd.H_widen hH) hg (fun k hk => .inl (hR.1 k hk))
  have h7 := (Kd.H_seg h6 (by omega) (by omega) (seg := [v1]) (j := 0) (by simp [Kd.slice]) (fun q hq => by rw [List.mem_singleton.1 hq]; exact hv.2)).1
  have h8 : w1.setCells g ((i : Int).toNat * (Kd.slice ti (Kd.int .i64)).sz + 0) [v1] = w1.setCell ⟨g, i, none⟩ v1 := by
    simp only [Kd.slice, Int.toNat_natCast, Nat.mul_one, Nat.add_zero]; rfl
  rw [h8] at h7
  have h9 := Kd.H_back h7 (x' := zs) (okp := fun k => oki k ∨ ok k ∧ W.heap.size ≤ k) ⟨v1, rfl, Kd.R_far hr (fun k hk => (hne k hk).2) v1⟩ (fun _ hk => hk)
  rw [Int.toNat_natCast] at h9
  exact h9
/-- the run of an append -/
theorem app_run {P : Program} {ti t ty : Nat} (ht : P.underlying t = some (.slice ti)) (hinfo : (P.info? ti).map (fun i => (i.zero, i.size, i.bytes)) = some (some (.int .i64 0), 1, 8)) {W : World} {base : Nat} {okw : Nat → Prop} {u : Value} {xs : List Int}
    (h : (Kd.int .i64).R ti W base okw u xs) (hbase : base ≤ W.heap.size) (hokf : ∀ k, W.heap.size ≤ k → okw k) (a : Addr) (m c : Nat) (ys : List Int) (hm : ys.length = m) (hy : ∀ j, j < m → W.cell? (a.add j) = some (.int .i64 (ys.getD j 0))) (hl : (xs.length + m) * 8 ≤ 140737488355328) :
    ∃ A c1 w1, (Builtin.append_ #[t, t] ty #[u, .slice (some a) m c]).run P W = .ok (.slice A (xs ++ ys).length c1) w1 ∧ (Kd.int .i64).R ti w1 base okw (.slice A (xs ++ ys).length c1) (xs ++ ys) ∧ W.grownBy w1 u.ownBlock ∧ ((Value.slice A (xs ++ ys).length c1).ownBlock = u.ownBlock ∨ (Value.slice A (xs ++ ys).length c1).ownBlock = some W.heap.size) := by
  obtain ⟨i0, hi, hzz⟩ := Option.map_eq_some_iff.1 hinfo
  simp only [Prod.mk.injEq] at hzz
  obtain ⟨hz0, hz1, hz2⟩ := hzz
  obtain ⟨v1, w1, hr, ho, hg, _, hat⟩ := run_append_own_at (P := P) (w := W) base t ty ti i0 (.int .i64 0) 1 8 ht hi hz0 hz1 hz2 rfl (by omega) u xs.length (encs (Value.int .i64) xs) (Kd.own_of_R h) a m c (ys.map (Value.int .i64)) (by simp [hm])
    (fun j v hv => by
      rw [List.getElem?_map] at hv
      obtain ⟨q, hq, rfl⟩ := Option.map_eq_some_iff.1 hv
      have hj := (List.getElem?_eq_some_iff.1 hq).1
      rw [hy j (by omega), List.getD_eq_getElem?_getD, hq]; rfl)
    (fun v hv => by obtain ⟨q, _, rfl⟩ := List.mem_map.1 hv; rfl) (by simp only [maxLen]; omega) hl hbase
  have hR : (Kd.int .i64).R ti w1 base okw v1 (xs ++ ys) := by
    refine Kd.R_of_own ?_ (fun k hk => ?_)
    · have e : encs (Value.int .i64) (xs ++ ys) = encs (Value.int .i64) xs ++ ys.map (Value.int .i64) := by simp [encs]
      rw [e, List.length_append, hm]
      exact ho
    · rcases hat with hat | hat
      · exact h.1 k (hat ▸ hk)
      · rw [hat] at hk; injection hk with hk
        exact hokf k (by omega)
  obtain ⟨A, c1, rfl⟩ := Kd.R_slice hR
  exact ⟨A, c1, w1, hr, hR, hg, hat⟩
/-- the rows with one number more at row i's end: all that a walk needs -/
theorem rows_push {P : Program} {ti ts t ty : Nat} (ht : P.underlying t = some (.slice ti)) (hinfo : (P.info? ti).map (fun i => (i.zero, i.size, i.bytes)) = some (some (.int .i64 0), 1, 8)) {base g n cap : Nat} {W : World} {ok : Nat → Prop} {xs : List (List Int)} (hok : ∀ k, W.heap.size ≤ k → ok k) (hbase : base ≤ W.heap.size)
    (h : Kd.S (Kd.slice ti (Kd.int .i64)) ts W base ok (.slice (some ⟨g, 0, none⟩) n cap) xs) (i : Nat) (hi : i < n) (ys : List Int) (hl : ((xs.getD i []).length + ys.length) * 8 ≤ 140737488355328) :
    ∃ A0 n0 c0, W.cell? ⟨g, i, none⟩ = some (.slice A0 n0 c0) ∧ W.frozen? ⟨g, i, none⟩ = false ∧ (∀ k, (Value.slice A0 n0 c0).ownBlock = some k → ok k ∧ k ≠ g ∧ base ≤ k) ∧
      ∀ (W2 : World) (a : Addr) (m c : Nat), Below W.heap.size W W2 → m = ys.length → (∀ j, j < ys.length → W2.cell? (a.add j) = some (.int .i64 (ys.getD j 0))) → ∃ A1 n1 c1 w1, (Builtin.append_ #[t, t] ty #[.slice A0 n0 c0, .slice (some a) m c]).run P W2 = .ok (.slice A1 n1 c1) w1 ∧
        w1.cell? ⟨g, i, none⟩ = some (.slice A0 n0 c0) ∧ w1.frozen? ⟨g, i, none⟩ = false ∧ W.grownBy w1 (Value.slice A0 n0 c0).ownBlock ∧ Kd.S (Kd.slice ti (Kd.int .i64)) ts (w1.setCell ⟨g, i, none⟩ (.slice A1 n1 c1)) base ok (.slice (some ⟨g, 0, none⟩) n cap) (xs.set i (xs.getD i [] ++ ys)) := by
  have hgl : g < W.heap.size := Kd.S_lt h g (by simp [Value.ownBlock])
  obtain ⟨okw, u, h1, h2, h3, h4, h5, h6⟩ := rows_lend hok h i hi
  obtain ⟨A0, c0, rfl⟩ := Kd.R_slice h5
  refine ⟨A0, _, c0, h1, h2, fun k hk => ⟨(h4 k (h5.1 k hk)).1, (h4 k (h5.1 k hk)).2, Kd.R_base h5 k hk⟩, ?_⟩
  intro W2 a m c hb hm hy
  subst hm
  obtain ⟨A1, c1, w1, hr, hR, hg, hat⟩ := app_run (ty := ty) ht hinfo (Kd.R_below h5 hb) (Nat.le_trans hbase hb.size) (fun k hk => h3 k (Nat.le_trans hb.size hk)) a ys.length c ys rfl hy hl
  have hg2 : W.grownBy w1 (Value.slice A0 (xs.getD i []).length c0).ownBlock := World.grownBy.trans (grown_of_below hb _) hg
  have hgb : w1.heap[g]? = W.heap[g]? := hg2.block g hgl (fun e => (h4 g (h5.1 g e.symm)).2 rfl)
  refine ⟨A1, _, c1, w1, hr, ?_, ?_, hg2, h6 w1 _ _ hg2 hR⟩
  · exact (World.cell?_of_block (w := W) hgb).trans h1
  · rw [← h2]; simp only [World.frozen?, hgb]
open Classical in
/-- two rows laid into a new row of rows -/
theorem rows_two {ti ts base : Nat} {W : World} {ok0 ok1 ok : Nat → Prop} {v0 v1 : Value} {xs0 xs1 : List Int} (h0 : (Kd.int .i64).R ti W base ok0 v0 xs0) (h1 : (Kd.int .i64).R ti W base ok1 v1 xs1) (hd : ∀ k, ok1 k → ¬ ok0 k) (hk0 : ∀ k, ok0 k → ok k ∧ k < W.heap.size) (hk1 : ∀ k, ok1 k → ok k ∧ k < W.heap.size) (hf : ok W.heap.size) (hb : base ≤ W.heap.size) :
    Kd.S (Kd.slice ti (Kd.int .i64)) ts (W.alloc (.cells #[v0, v1] ts)) base ok (.slice (some ⟨W.heap.size, 0, none⟩) 2 2) [xs0, xs1] := by
  have hown := World.ownsRow_lit (base := base) (e := ts) (size := 1) W #[v0, v1] 2 hb (by simp [maxLen]) (by simp)
  have hne : ∀ k, k < W.heap.size → some k ≠ (Value.slice (some ⟨W.heap.size, 0, none⟩) 2 2).ownBlock := fun k hk e => by
    simp [Value.ownBlock] at e; omega
  refine ⟨fun k => if ok0 k then 0 else 1, fun k hk => ?_, [v0, v1], hown, ?_⟩
  · have : k = W.heap.size := by simpa [Value.ownBlock] using hk.symm
    rw [this]; exact hf
  · refine Reps.one (p := (xs0, 0)) ?_ (Reps.one (p := (xs1, 1)) ?_ (Reps.none _ _))
    · exact ⟨v0, rfl, Kd.R_mono (Kd.R_alloc h0 _) (fun k hk => ⟨⟨(hk0 k hk).1, hne k (hk0 k hk).2⟩, if_pos hk⟩)⟩
    · exact ⟨v1, rfl, Kd.R_mono (Kd.R_alloc h1 _) (fun k hk => ⟨⟨(hk1 k hk).1, hne k (hk1 k hk).2⟩, if_neg (hd k hk)⟩)⟩
/-- an append whose run is told, at a step of a region that draws its order -/
theorem step_app {P : Program} {ops : Array Oper} {o : Oper} {a : Act} {K : Act → World → Prop} {Q : Exit → Act → World → Prop} {E : Prop} (hgd : o.guard = none) (s x : Operand) (t : TypeId)
    (ho : o.op = .call { callee := .builtin .append, args := #[s, x], argTypes := #[t, t] }) (vs vx v1 : Value) (W w1 : World) (hs : a.eval s = vs) (hx : a.eval x = vx) (hr : (Builtin.append_ #[t, t] o.type #[vs, vx]).run P W = .ok v1 w1) (h : K (a.put o.dst v1) w1) :
    if Region.wanted o (yielded ops a.tmps) = true then Oper.wp P o a W K Q else E := by
  have hw : Region.wanted o (yielded ops a.tmps) = true := by simp [Region.wanted, hgd]
  rw [if_pos hw]
  unfold Oper.wp execOp
  simp only [ho, resolve, invoke, builtin, Sem.run_bind, Sem.run_pure, Result.andThen_ok, List.map_toArray, List.map_cons, List.map_nil, hs, hx, hr]
  exact h
/-- the same, the run told by a fact on what it leaves -/
theorem step_app_ex {P : Program} {ops : Array Oper} {o : Oper} {a : Act} {K : Act → World → Prop} {Q : Exit → Act → World → Prop} {E : Prop} {Φ : Value → World → Prop} (hgd : o.guard = none) (s x : Operand) (t : TypeId)
    (ho : o.op = .call { callee := .builtin .append, args := #[s, x], argTypes := #[t, t] }) (vs vx : Value) (W : World) (hs : a.eval s = vs) (hx : a.eval x = vx) (hr : ∃ v1 w1, (Builtin.append_ #[t, t] o.type #[vs, vx]).run P W = .ok v1 w1 ∧ Φ v1 w1) (h : ∀ v1 w1, Φ v1 w1 → K (a.put o.dst v1) w1) :
    if Region.wanted o (yielded ops a.tmps) = true then Oper.wp P o a W K Q else E := by
  obtain ⟨v1, w1, h1, h2⟩ := hr
  exact step_app hgd s x t ho vs vx v1 W w1 hs hx h1 (h v1 w1 h2)
end Go.Proofs.YtmdpjmcleckedaaDoor.M
