/- Functions of the given program as plain Lean functions, with proofs that their calls compute them, or lemmas on these. Laid by a program of this repo for the seat Ytcelfhphmlhonaa; Lean checks it. -/
import Derived.Test.YtcelfhphmlhonaaKExactOnesInCubes0
import Derived.Test.YtcelfhphmlhonaaKExactOnesInCubes3
import Derived.Test.YtcelfhphmlhonaaKExactOnesInCubes7
import Derived.Test.YtcelfhphmlhonaaM12
import Derived.Shelf.GgClosure.Gives
import Derived.Deep.RegionHeld3
import Derived.BigQuiet
namespace Go.Proofs.Ytcelfhphmlhonaa.Print
open Go.RowKit Go.Proofs.YtcelfhphmlhonaaW.PrintWords Go.Proofs.YtcelfhphmlhonaaW.PrintLast Go.Proofs.YtcelfhphmlhonaaW.PrintMore
attribute [local go_sem] max2_int min2_int max_two min_two max_three min_three max_four min_four   -- for this text's walks alone
set_option linter.unusedVariables false
set_option linter.unusedSimpArgs false

--OWNPART
/-! ### impl_OnesInCubes: function 55 -/
--IMPORT M12
--IMPORT Derived.Shelf.GgClosure.Gives
--IMPORT Derived.Deep.RegionHeld3
--IMPORT Derived.BigQuiet
open Go.Proofs.Ytcelfhphmlhonaa.M
/-- how many words have so many ones -/
def impl_OnesInCubes.add (out : List Int) (x : Nat) : List Int := out.set (pc x) (wrap64 (rd out ((pc x : Nat) : Int) + 1))
def impl_OnesInCubes.tally (len : Nat) (l : List Nat) : List Int := l.foldl impl_OnesInCubes.add (List.replicate len 0)
theorem impl_OnesInCubes.tally_len (len : Nat) (l : List Nat) : (impl_OnesInCubes.tally len l).length = len := by
  unfold impl_OnesInCubes.tally
  have : ∀ (l : List Nat) (o : List Int), (l.foldl impl_OnesInCubes.add o).length = o.length := by
    intro l
    induction l with
    | nil => intro o; rfl
    | cons x t ih => intro o; rw [List.foldl_cons, ih]; simp [impl_OnesInCubes.add]
  rw [this]; simp
theorem impl_OnesInCubes.tally_snoc (len : Nat) (l : List Nat) (x : Nat) : impl_OnesInCubes.tally len (l ++ [x]) = impl_OnesInCubes.add (impl_OnesInCubes.tally len l) x := by unfold impl_OnesInCubes.tally; rw [List.foldl_append]; rfl
def impl_OnesInCubes.f (a0_0 : Int) (a0_1 : Int) (a1 : Int) : Option (List Int) :=
  (impl_isSmall.f a0_0 a0_1 4).bind fun q => if q = true ∧ 0 ≤ a1 ∧ a1 ≤ a0_0 then (if 0 ≤ a0_0 ∧ a0_0 ≤ 4 ∧ 0 ≤ a0_1 ∧ a0_1 < ((2 ^ 2 ^ a0_0.toNat : Nat) : Int) then some (impl_OnesInCubes.tally (2 ^ a1.toNat + 1) (cutAll a0_0.toNat a0_1.toNat a1.toNat (2 ^ a0_0.toNat))) else none) else some []
/-- the list in memory -/
def impl_OnesInCubes.I (w : World) (gr len cap : Nat) (l : List Nat) (W : World) : Prop :=
  W.heap[w.heap.size + 1]? = some (.cells #[.slice (some ⟨gr, 0, none⟩) len cap] 56 (0, 0)) ∧ Kd.R (Kd.int .i64) 3 W (w.heap.size + 2) (fun _ => True) (.slice (some ⟨gr, 0, none⟩) len cap) (impl_OnesInCubes.tally len l) ∧ Below w.heap.size w W
set_option maxHeartbeats 4000000 in
set_option maxRecDepth 100000 in
theorem impl_OnesInCubes.clo (w : World) (gr len cap : Nat) (l : List Nat) (B k x : Nat) (hgr : w.heap.size + 2 ≤ gr) (hB : gr < B) (hx : x < 2 ^ 32) (hl : pc x < len) (W : World) (hI : impl_OnesInCubes.I w gr len cap l W) :
    Calls Try.prog 93 #[.agg #[.int .i64 (k : Int), .int .i64 (x : Int)], .pointer (some ⟨w.heap.size + 1, 0, none⟩)] W fun e W' => e = .returned (.tuple #[]) ∧ impl_OnesInCubes.I w gr len cap (l ++ [x]) W' ∧ impl_cubes.Away B W W' := by
  have huT := Try.underlying45
  obtain ⟨h1, h2, h3⟩ := hI
  have L1 := blk_lt h1
  have BA : Below W.heap.size W (W.alloc (.cells #[.int .i64 (k : Int), .int .i64 (x : Int)] 45)) := (Below.refl _ _).alloc (Nat.le_refl _) _
  have T0 : (W.alloc (.cells #[.int .i64 (k : Int), .int .i64 (x : Int)] 45)).heap[W.heap.size]? = some (.cells #[.int .i64 (k : Int), .int .i64 (x : Int)] 45 (0, 0)) := blk_new W _
  have HP := Aside0.mk (impl_cubes.ones_pc (w := x) hx)
  have R0 := Kd.R_alloc h2 (.cells #[.int .i64 (k : Int), .int .i64 (x : Int)] 45)
  have hlt : ((pc x : Nat) : Int) < ((impl_OnesInCubes.tally len l).length : Int) := by rw [impl_OnesInCubes.tally_len]; omega
  have hcell := Kd.R_celln 0 R0 ((pc x : Nat) : Int) (Int.natCast_nonneg _) (by omega)
  have e1 := impl_OnesInCubes.tally_snoc len l x
  have HE := Aside0.mk e1
  have PUT := Aside0.mk (fun nd => (Kd.R_putg (Kd.R_drewN R0 nd) ((pc x : Nat) : Int) (wrap64 (rd (impl_OnesInCubes.tally len l) ((pc x : Nat) : Int) + 1))).1)
  obtain ⟨k0, y0⟩ := hcell
  have k0' : (W.alloc (.cells #[.int .i64 (k : Int), .int .i64 (x : Int)] 45)).cell? ⟨gr, pc x, none⟩ = some (.int .i64 (rd (impl_OnesInCubes.tally len l) ((pc x : Nat) : Int))) := k0
  have y0' : (W.alloc (.cells #[.int .i64 (k : Int), .int .i64 (x : Int)] 45)).frozen? ⟨gr, pc x, none⟩ = false := y0
  have c1 := blk_cell (blk_below h1 BA) 0
  have c2 := blk_cell T0 0
  have c3 := blk_cell T0 1
  have D1 := Aside0.mk (blk_below h1 BA)
  have D3 := Aside0.mk h3
  have D4 := Aside0.mk BA
  have HGR := Aside0.mk hgr
  have HBB := Aside0.mk hB
  have hpl : (pc x : Int) < (len : Int) := by omega
  unfold impl_OnesInCubes.I
  rw [e1]
  unfold impl_OnesInCubes.add at HE ⊢
  generalize impl_OnesInCubes.tally len l = T at *
  generalize pc x = p at *
  generalize rd T (p : Int) = y at *
  clear h1 h2 h3 BA L1 T0 R0 e1 k0 y0 hl hlt hgr hB hx
  go_enter Try.func93, Try.ntmps93
  go_wp2
  go_region_with (first | (go_at_call 84; (with_reducible refine (impl_ones.calls _ _ _ HP.out).mono ?_); rintro e w' ⟨rfl, ⟨nd, rfl⟩⟩))
  all_goals
    refine bodyPost_end (v := .tuple #[]) (by simp [results, Try.results93]) rfl ⟨rfl, ⟨?_, ?_, ?_⟩, ?_⟩
    · exact blk_far (blk_drewN D1.out _) (by have := HGR.out; show w.heap.size + 1 ≠ gr; omega) _
    · have h := PUT.out (1 + nd)
      rw [i64_w]
      exact h
    · exact (D3.out.trans ((pw_below_drewN D4.out _).mono D3.out.size)).setCell (p := ⟨gr, p, none⟩) (by have := HGR.out; show w.heap.size ≤ gr; omega) _
    · exact (impl_cubes.Away.below B (pw_below_drewN D4.out _)).trans (impl_cubes.Away.setCell (p := ⟨gr, p, none⟩) HBB.out _)
theorem impl_OnesInCubes.start {w W0 w4 : World} {gr len cap : Nat} (hz : W0.heap.size = w.heap.size + 2) (hB : Below w.heap.size w W0) (b4 : Below W0.heap.size W0 w4) (c1 : W0.heap[w.heap.size + 1]? = some (.cells #[.slice none 0 0] 56 (0, 0))) {base : Nat} (ho : Kd.R (Kd.int .i64) 3 w4 base (fun _ => True) (.slice (some ⟨gr, 0, none⟩) len cap) (List.replicate len 0)) (hb : w.heap.size + 2 ≤ base) (hg : w.heap.size + 2 ≤ gr) :
    impl_OnesInCubes.I w gr len cap [] (w4.setCell ⟨w.heap.size + 1, 0, none⟩ (.slice (some ⟨gr, 0, none⟩) len cap)) := by
  refine ⟨?_, ?_, (hB.trans (b4.mono hB.size)).setCell (p := ⟨w.heap.size + 1, 0, none⟩) (by show w.heap.size ≤ w.heap.size + 1; omega) _⟩
  · have := blk_set (blk_below c1 b4) 0 (.slice (some ⟨gr, 0, none⟩) len cap)
    simpa using this
  · have h1 := Kd.R_flat (ok' := fun k => k = gr) (fun h => h) (Kd.R_lower ho hb) (fun k hk _ => by simp [Value.ownBlock] at hk; omega)
    have h2 := Kd.R_far h1 (p := ⟨w.heap.size + 1, 0, none⟩) (fun k hk => by rw [hk]; show gr ≠ w.heap.size + 1; omega) (.slice (some ⟨gr, 0, none⟩) len cap)
    exact Kd.R_mono h2 (fun _ _ => trivial)
theorem impl_OnesInCubes.len_eq {kk len : Nat} (hlen : len = 2 ^ kk + 1) (h16 : 2 ^ kk ≤ 16) : wrap64 (wrap64 (2 ^ kk) + 1) = (len : Int) := by
  have e : ((2 : Int) ^ kk) = ((2 ^ kk : Nat) : Int) := by push_cast; rfl
  rw [e, hlen]
  generalize 2 ^ kk = P at *
  rw [w64 (x := (P : Int)) (by omega) (by omega), w64 (by omega) (by omega)]
  omega
set_option maxHeartbeats 4000000 in
set_option maxRecDepth 100000 in
theorem impl_OnesInCubes.good (n v kk N len : Nat) (hn : n ≤ 4) (hN : N = 2 ^ n) (hlen : len = 2 ^ kk + 1) (hv : v < 2 ^ 2 ^ n) (hk : kk ≤ n) (hsm : impl_isSmall.f (n : Int) (v : Int) 4 = some true) (w : World) :
    Calls Try.prog 55 #[.agg #[.int .i64 (n : Int), .int .i64 (v : Int)], .int .i64 (kk : Int)] w fun e w' => ∃ v0_ : Value, e = .returned v0_ ∧ Kd.R (Kd.int .i64) 3 w' w.heap.size (fun _ => True) v0_ (impl_OnesInCubes.tally len (cutAll n v kk N)) ∧ Below w.heap.size w w' := by
  have huT := Try.underlying45
  have h16 : 2 ^ kk ≤ 16 := pow16 (by omega)
  have hpos := Nat.two_pow_pos kk
  obtain ⟨W0, hW0⟩ : ∃ W0, W0 = (w.alloc (.cells #[.int .i64 (n : Int), .int .i64 (v : Int)] 45)).alloc (.cells #[.slice none 0 0] 56) := ⟨_, rfl⟩
  have HB : Below w.heap.size w W0 := by rw [hW0]; exact ((Below.refl _ _).alloc (Nat.le_refl _) _).alloc (by simp) _
  have c0 : W0.heap[w.heap.size]? = some (.cells #[.int .i64 (n : Int), .int .i64 (v : Int)] 45 (0, 0)) := by rw [hW0]; exact blk_alloc (blk_new w _) _
  have c1 : W0.heap[w.heap.size + 1]? = some (.cells #[.slice none 0 0] 56 (0, 0)) := by
    rw [hW0]; have := blk_new (w.alloc (.cells #[.int .i64 (n : Int), .int .i64 (v : Int)] 45)) (.cells #[.slice none 0 0] 56)
    simpa using this
  have hsz : W0.heap.size = w.heap.size + 2 := by rw [hW0]; simp
  have hcall : ∀ gr cap W, w.heap.size + 2 ≤ gr → gr < W.heap.size → impl_OnesInCubes.I w gr len cap [] W → Calls Try.prog 92 #[.agg #[.int .i64 (n : Int), .int .i64 (v : Int)], .int .i64 (kk : Int), .func (.func 93) #[] #[.pointer (some ⟨w.heap.size + 1, 0, none⟩)]] W fun e w' => e = .returned (.bool true) ∧ impl_OnesInCubes.I w gr len cap (cutAll n v kk N) w' := by
    intro gr cap W hg1 hg2 hI0
    refine impl_cubes.call n v kk N hn hN hv hk hsm 93 #[.pointer (some ⟨w.heap.size + 1, 0, none⟩)] (enters_of Try.func93 (by kernel_rfl) rfl) (impl_OnesInCubes.I w gr len cap) W hI0 ?_ ?_
    · intro l W1 W2 hI hb2
      obtain ⟨i1, i2, i3⟩ := hI
      refine ⟨(hb2.block _ (by omega)).trans i1, ?_, i3.trans (hb2.mono (by omega))⟩
      have i2' := Kd.R_flat (ok' := fun k => k = gr) (fun h => h) i2 (fun k hk _ => by simp [Value.ownBlock] at hk; omega)
      have := Kd.R_step (w1 := W2) i2' (fun k hk _ => by rw [hk]; exact hb2.block gr hg2)
      exact Kd.R_mono this (fun _ _ => trivial)
    · intro l x W1 hx hI
      have hx32 : x < 2 ^ 32 := Nat.lt_of_lt_of_le hx (full_lt (by omega))
      refine impl_OnesInCubes.clo w gr len cap l W.heap.size kk x hg1 hg2 hx32 ?_ W1 hI
      have h1 := pc_of_lt hx (32 - 2 ^ kk)
      have h2 := cnt_le x.testBit (2 ^ kk)
      unfold pc
      rw [show 32 = 2 ^ kk + (32 - 2 ^ kk) by omega, h1]
      omega
  have HC := Aside0.mk hcall
  have HBB := Aside0.mk HB
  have HSM := Aside0.mk hsm
  have CW := Aside0.mk hW0
  have C0 := Aside0.mk c0
  have C1 := Aside0.mk c1
  have HSZ := Aside0.mk hsz
  clear hv hsm hcall hW0 HB c0 c1 hsz
  have E3 := Aside0.mk (impl_OnesInCubes.len_eq hlen h16)
  have HL0 : Aside0 (0 < len) := ⟨by omega⟩
  have hk64 : kk ≤ 64 := by omega
  have hkn : decide ((kk : Int) ≤ (n : Int)) = true := decide_eq_true (by omega)
  have hkn2 : decide (kk ≤ n) = true := decide_eq_true hk
  have hlen32 : len ≤ 32 := by omega
  clear hn hk hlen hpos h16
  generalize cutAll n v kk N = L at *
  go_enter Try.func55, Try.ntmps55
  go_wp2_with (first | (go_at_call 91; rw [← CW.out]; (with_reducible refine (impl_isSmall.calls _ _ _ _ _ HSM.out).mono ?_); rintro e w1 ⟨rfl, hb⟩; have B1 := Aside0.mk hb; clear hb; have p0 := blk_cell (blk_below C0.out B1.out) 0; have p1 := blk_cell (blk_below C0.out B1.out) 1; have q0 := blk_cell (blk_below C1.out B1.out) 0; have y0 := blk_frozen (blk_below C1.out B1.out) 0) | ((with_reducible refine gate_dst (N := 21) rfl ?_); refine Kd.R_make (Kd.int .i64) _ 3 rfl (N := 21) rfl 56 _ _ rfl (wrap64 (wrap64 (2 ^ kk) + 1)) rfl rfl Try.underlying56 (.int .i64 0) 8 info3 rfl (by decide) (by omega) 0 (ok := fun _ => True) (okp := fun _ => True) rfl (fun _ hk => hk) trivial (by rw [E3.out]; omega) (by rw [E3.out]; omega) (Below.refl _ _) (Nat.le_refl _) ?_; intro v4 w4 ho hb hg_ hnew_; clear hg_ hnew_; rw [E3.out, Int.toNat_natCast] at ho; obtain ⟨gr, cap, hv4, hgb, hgl, _⟩ := Kd.R_form ho (by rw [List.length_replicate]; exact HL0.out); have hv5 : v4 = .slice (some ⟨gr, 0, none⟩) len cap := (by rw [hv4]; simp); subst hv5; clear hv4; have HO := Aside0.mk ho; have B4 := Aside0.mk (B1.out.trans (hb.mono B1.out.size)); have HGB := Aside0.mk hgb; have HGL := Aside0.mk hgl; clear ho hb hgb hgl; have q4 := blk_cell (blk_below C1.out B4.out) 0; have y4 := blk_frozen (blk_below C1.out B4.out) 0; have p4 := blk_cell (blk_below C0.out B4.out) 0; have p5 := blk_cell (blk_below C0.out B4.out) 1) | (go_at_call 92; (with_reducible refine (HC.out gr cap _ ?h1 ?h2 ?h3).mono ?_); (case h1 => have := HGB.out; have := B1.out.size; have := HSZ.out; omega); (case h2 => exact Nat.lt_of_lt_of_le HGL.out ((Below.refl 0 w4).setCell (Nat.zero_le _) _).size); (case h3 => exact impl_OnesInCubes.start HSZ.out HBB.out B4.out C1.out HO.out (by have := B1.out.size; have := HSZ.out; omega) (by have := HGB.out; have := B1.out.size; have := HSZ.out; omega)); rintro e w5 ⟨rfl, hI⟩; have HI := Aside0.mk hI; clear hI; have q5 := blk_cell HI.out.1 0))
  go_ret
  exact ⟨_, rfl, Kd.R_lower HI.out.2.1 (by omega), HI.out.2.2⟩
set_option maxHeartbeats 4000000 in
theorem impl_OnesInCubes.bad (a b k : Int) (q : Bool) (hsm : impl_isSmall.f a b 4 = some q) (h : q = true → k < 0 ∨ a < k) (w : World) :
    Calls Try.prog 55 #[.agg #[.int .i64 a, .int .i64 b], .int .i64 k] w fun e w' => e = .returned (.slice none 0 0) ∧ Below w.heap.size w w' := by
  have huT := Try.underlying45
  obtain ⟨W0, hW0⟩ : ∃ W0, W0 = (w.alloc (.cells #[.int .i64 a, .int .i64 b] 45)).alloc (.cells #[.slice none 0 0] 56) := ⟨_, rfl⟩
  have HB : Below w.heap.size w W0 := by rw [hW0]; exact ((Below.refl _ _).alloc (Nat.le_refl _) _).alloc (by simp) _
  have c0 : W0.heap[w.heap.size]? = some (.cells #[.int .i64 a, .int .i64 b] 45 (0, 0)) := by rw [hW0]; exact blk_alloc (blk_new w _) _
  have c1 : W0.heap[w.heap.size + 1]? = some (.cells #[.slice none 0 0] 56 (0, 0)) := by
    rw [hW0]; have := blk_new (w.alloc (.cells #[.int .i64 a, .int .i64 b] 45)) (.cells #[.slice none 0 0] 56)
    simpa using this
  have HC := Aside0.mk (fun fv W => impl_cubes.bad a b k q hsm h fv W)
  have HBB := Aside0.mk HB
  have HSM := Aside0.mk hsm
  have CW := Aside0.mk hW0
  have C0 := Aside0.mk c0
  have C1 := Aside0.mk c1
  clear hsm HB c0 c1 hW0
  cases q with
  | false =>
    clear h
    go_enter Try.func55, Try.ntmps55
    go_wp2_with (first | (go_at_call 91; rw [← CW.out]; (with_reducible refine (impl_isSmall.calls _ _ _ _ _ HSM.out).mono ?_); rintro e w1 ⟨rfl, hb⟩; have B1 := Aside0.mk hb; clear hb; have p0 := blk_cell (blk_below C0.out B1.out) 0; have p1 := blk_cell (blk_below C0.out B1.out) 1) | (go_at_call 92; (with_reducible refine (HC.out _ _).mono ?_); rintro e w5 ⟨rfl, hb⟩; have B5 := Aside0.mk (B1.out.trans (hb.mono B1.out.size)); clear hb; have q5 := blk_cell (blk_below C1.out B5.out) 0))
    go_ret
    exact ⟨rfl, HBB.out.trans (B5.out.mono HBB.out.size)⟩
  | true =>
    have h := h rfl
    by_cases hk : k < 0
    · have hk0 : decide (k ≥ 0) = false := decide_eq_false (by omega)
      have hk1 : decide (0 ≤ k) = false := decide_eq_false (by omega)
      clear h hk
      go_enter Try.func55, Try.ntmps55
      go_wp2_with (first | (go_at_call 91; rw [← CW.out]; (with_reducible refine (impl_isSmall.calls _ _ _ _ _ HSM.out).mono ?_); rintro e w1 ⟨rfl, hb⟩; have B1 := Aside0.mk hb; clear hb; have p0 := blk_cell (blk_below C0.out B1.out) 0; have p1 := blk_cell (blk_below C0.out B1.out) 1) | (go_at_call 92; (with_reducible refine (HC.out _ _).mono ?_); rintro e w5 ⟨rfl, hb⟩; have B5 := Aside0.mk (B1.out.trans (hb.mono B1.out.size)); clear hb; have q5 := blk_cell (blk_below C1.out B5.out) 0))
      go_ret
      exact ⟨rfl, HBB.out.trans (B5.out.mono HBB.out.size)⟩
    · have hk0 : decide (k ≥ 0) = true := decide_eq_true (by omega)
      have hk1 : decide (0 ≤ k) = true := decide_eq_true (by omega)
      have hk2 : decide (k ≤ a) = false := decide_eq_false (by omega)
      clear h hk
      go_enter Try.func55, Try.ntmps55
      go_wp2_with (first | (go_at_call 91; rw [← CW.out]; (with_reducible refine (impl_isSmall.calls _ _ _ _ _ HSM.out).mono ?_); rintro e w1 ⟨rfl, hb⟩; have B1 := Aside0.mk hb; clear hb; have p0 := blk_cell (blk_below C0.out B1.out) 0; have p1 := blk_cell (blk_below C0.out B1.out) 1) | (go_at_call 92; (with_reducible refine (HC.out _ _).mono ?_); rintro e w5 ⟨rfl, hb⟩; have B5 := Aside0.mk (B1.out.trans (hb.mono B1.out.size)); clear hb; have q5 := blk_cell (blk_below C1.out B5.out) 0))
      go_ret
      exact ⟨rfl, HBB.out.trans (B5.out.mono HBB.out.size)⟩
theorem impl_OnesInCubes.calls (a0_0 : Int) (a0_1 : Int) (a1 : Int) (r : List Int) (w : World) (h : impl_OnesInCubes.f a0_0 a0_1 a1 = some r) :
    Calls Try.prog 55 #[.agg #[.int .i64 a0_0, .int .i64 a0_1], .int .i64 a1] w fun e w' => ∃ v0_ : Value, e = .returned v0_ ∧ Kd.R (Kd.int .i64) 3 w' w.heap.size (fun _ => True) v0_ r ∧ Below w.heap.size w w' := by
  unfold impl_OnesInCubes.f at h
  obtain ⟨q, hq, h⟩ := Option.bind_eq_some_iff.mp h
  by_cases hc : q = true ∧ 0 ≤ a1 ∧ a1 ≤ a0_0
  · rw [if_pos hc] at h
    obtain ⟨rfl, h1, h2⟩ := hc
    by_cases hd : 0 ≤ a0_0 ∧ a0_0 ≤ 4 ∧ 0 ≤ a0_1 ∧ a0_1 < ((2 ^ 2 ^ a0_0.toNat : Nat) : Int)
    · rw [if_pos hd] at h
      obtain ⟨d1, d2, d3, d4⟩ := hd
      obtain ⟨n, rfl⟩ := nat_of d1
      obtain ⟨v, rfl⟩ := nat_of d3
      obtain ⟨k, rfl⟩ := nat_of h1
      simp only [Int.toNat_natCast] at h d4
      rw [← Option.some.inj h]
      exact impl_OnesInCubes.good n v k (2 ^ n) (2 ^ k + 1) (by omega) rfl rfl (by exact_mod_cast d4) (by omega) hq w
    · rw [if_neg hd] at h; cases h
  · rw [if_neg hc] at h
    rw [← Option.some.inj h]
    refine (impl_OnesInCubes.bad a0_0 a0_1 a1 q hq (fun e => by
      subst e
      by_cases h1 : a1 < 0
      · exact .inl h1
      · exact .inr (Classical.byContradiction fun h2 => hc ⟨rfl, by omega, by omega⟩)) w).mono ?_
    rintro e w' ⟨rfl, hb⟩
    exact ⟨_, rfl, Kd.R_nil _ _ _ _ _, hb⟩


end Go.Proofs.Ytcelfhphmlhonaa.Print
