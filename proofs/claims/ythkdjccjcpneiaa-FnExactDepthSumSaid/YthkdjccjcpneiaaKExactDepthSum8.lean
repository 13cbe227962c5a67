/- Functions of the given program as plain Lean functions, with proofs that their calls compute them, or lemmas on these. Laid by a program of this repo for the seat Ythkdjccjcpneiaa; Lean checks it. -/
import Derived.Test.YthkdjccjcpneiaaKExactDepthSum0
import Derived.Test.YthkdjccjcpneiaaKExactDepthSum2
import Derived.Test.YthkdjccjcpneiaaKExactDepthSum6
import Derived.Test.YthkdjccjcpneiaaM12
import Derived.Shelf.GgClosure.Gives
import Derived.Deep.RegionHeld3
import Derived.BigQuiet
namespace Go.Proofs.Ythkdjccjcpneiaa.Print
open Go.RowKit Go.Proofs.YthkdjccjcpneiaaW.PrintWords Go.Proofs.YthkdjccjcpneiaaW.PrintLast Go.Proofs.YthkdjccjcpneiaaW.PrintMore
attribute [local go_sem] max2_int min2_int max_two min_two max_three min_three max_four min_four   -- for this text's walks alone
set_option linter.unusedVariables false
set_option linter.unusedSimpArgs false

--OWNPART
/-! ### impl_sumOverCubes: function 24 -/
--IMPORT M12
--IMPORT Derived.Shelf.GgClosure.Gives
--IMPORT Derived.Deep.RegionHeld3
--IMPORT Derived.BigQuiet
open Go.Proofs.Ythkdjccjcpneiaa.M
/-- the sum of what a function tells of a list's numbers -/
def impl_sumOverCubes.sum (h : Nat → Int) (l : List Nat) : Int := l.foldl (fun s x => wrap64 (s + h x)) 0
/-- the function and the sum in memory -/
def impl_sumOverCubes.I (w : World) (fv : Value) (h : Nat → Int) (l : List Nat) (W : World) : Prop :=
  W.heap[w.heap.size + 1]? = some (.cells #[fv] 50 (0, 0)) ∧ W.heap[w.heap.size + 2]? = some (.cells #[.int .i64 (impl_sumOverCubes.sum h l)] 3 (0, 0)) ∧ Below w.heap.size w W
set_option maxHeartbeats 4000000 in
set_option maxRecDepth 100000 in
theorem impl_sumOverCubes.clo (w : World) (g : Nat) (lb : Array Value) (eg : ∀ args w, (callFunc g args).run Try.prog w = .ok (.enter g args) w) (h : Nat → Int) (l : List Nat) (B k x : Nat) (hB : w.heap.size + 3 ≤ B) (W : World) (hI : impl_sumOverCubes.I w (.func (.func g) #[] lb) h l W)
    (hp : ∀ W', Below w.heap.size w W' → Calls Try.prog g (#[.agg #[.int .i64 (k : Int), .int .i64 (x : Int)]] ++ lb) W' fun e W'' => e = .returned (.int .i64 (h x)) ∧ Below W'.heap.size W' W'') :
    Calls Try.prog 40 #[.agg #[.int .i64 (k : Int), .int .i64 (x : Int)], .pointer (some ⟨w.heap.size + 2, 0, none⟩), .pointer (some ⟨w.heap.size + 1, 0, none⟩)] W fun e W' => e = .returned (.tuple #[]) ∧ impl_sumOverCubes.I w (.func (.func g) #[] lb) h (l ++ [x]) W' ∧ impl_cubes.Away B W W' := by
  have huT := Try.underlying25
  obtain ⟨h1, h2, h3⟩ := hI
  have L1 := blk_lt h1
  have L2 := blk_lt h2
  obtain ⟨W0, hW0⟩ : ∃ W0, W0 = W.alloc (.cells #[.int .i64 (k : Int), .int .i64 (x : Int)] 25) := ⟨_, rfl⟩
  have BA : Below W.heap.size W W0 := by rw [hW0]; exact (Below.refl _ _).alloc (Nat.le_refl _) _
  have T0 : W0.heap[W.heap.size]? = some (.cells #[.int .i64 (k : Int), .int .i64 (x : Int)] 25 (0, 0)) := by rw [hW0]; exact blk_new W _
  have HP := Aside0.mk (fun W' (hb : Below W0.heap.size W0 W') => hp W' (h3.trans ((BA.trans (hb.mono BA.size)).mono h3.size)))
  have e1 : impl_sumOverCubes.sum h (l ++ [x]) = wrap64 (impl_sumOverCubes.sum h l + h x) := by unfold impl_sumOverCubes.sum; rw [List.foldl_append]; rfl
  have D1 := Aside0.mk (blk_below h1 BA)
  have D2 := Aside0.mk (blk_below h2 BA)
  have D3 := Aside0.mk h3
  have D4 := Aside0.mk BA
  have D5 := Aside0.mk T0
  have c0 := blk_cell (blk_below h2 BA) 0
  have c1 := blk_cell (blk_below h1 BA) 0
  have c2 := blk_cell T0 0
  have c3 := blk_cell T0 1
  have z0 := blk_frozen (blk_below h2 BA) 0
  have HBB := Aside0.mk hB
  unfold impl_sumOverCubes.I
  rw [e1]
  generalize impl_sumOverCubes.sum h l = s at *
  generalize h x = y at *
  clear hp h1 h2 h3 BA L1 L2 T0 hB e1
  subst hW0
  go_enter Try.func40, Try.ntmps40
  go_wp2
  go_region_with (first | (go_at_fn g; refine (HP.out _ ?side).mono ?_; (case side => exact pw_below_drewN (Below.refl _ _) _); rintro e w' ⟨rfl, hb⟩; have q2 := Aside0.mk (blk_below (blk_drewN D2.out _) hb); have q1 := Aside0.mk (blk_below (blk_drewN D1.out _) hb); have k0 := blk_cell q2.out 0; have y0 := blk_frozen q2.out 0; have BW : Aside0 (Below W.heap.size W w') := ⟨D4.out.trans (((pw_below_drewN (Below.refl _ _) _).trans hb).mono D4.out.size)⟩; clear hb))
  all_goals
    refine bodyPost_end (v := .tuple #[]) (by simp [results, Try.results40]) rfl ⟨rfl, ⟨?_, ?_, ?_⟩, ?_⟩
    · exact blk_far q1.out (by show w.heap.size + 1 ≠ w.heap.size + 2; omega) _
    · have := blk_set q2.out 0 (.int .i64 (wrap64 (s + y)))
      rw [i64_w]
      simpa using this
    · exact (D3.out.trans (BW.out.mono D3.out.size)).setCell (p := ⟨w.heap.size + 2, 0, none⟩) (by show w.heap.size ≤ w.heap.size + 2; omega) _
    · exact (impl_cubes.Away.below B BW.out).trans (impl_cubes.Away.setCell (by have := HBB.out; show w.heap.size + 2 < B; omega) _)
set_option maxHeartbeats 4000000 in
set_option maxRecDepth 100000 in
theorem impl_sumOverCubes.good (n v kk N : Nat) (hn : n ≤ 4) (hN : N = 2 ^ n) (hv : v < 2 ^ 2 ^ n) (hk : kk ≤ n) (hsm : impl_isSmall.f (n : Int) (v : Int) 4 = some true) (g : Nat) (lb : Array Value) (eg : ∀ args w, (callFunc g args).run Try.prog w = .ok (.enter g args) w) (h : Nat → Int) (w : World)
    (hp : ∀ (x : Nat) (W : World), x < 2 ^ 2 ^ kk → Below w.heap.size w W → Calls Try.prog g (#[.agg #[.int .i64 (kk : Int), .int .i64 (x : Int)]] ++ lb) W fun e W' => e = .returned (.int .i64 (h x)) ∧ Below W.heap.size W W') :
    Calls Try.prog 24 #[.agg #[.int .i64 (n : Int), .int .i64 (v : Int)], .int .i64 (kk : Int), .func (.func g) #[] lb] w fun e w' => e = .returned (.int .i64 (impl_sumOverCubes.sum h (cutAll n v kk N))) ∧ Below w.heap.size w w' := by
  have huT := Try.underlying25
  obtain ⟨W0, hW0⟩ : ∃ W0, W0 = ((w.alloc (.cells #[.int .i64 (n : Int), .int .i64 (v : Int)] 25)).alloc (.cells #[.func (.func g) #[] lb] 50)).alloc (.cells #[.int .i64 0] 3) := ⟨_, rfl⟩
  have HB : Below w.heap.size w W0 := by rw [hW0]; exact (((Below.refl _ _).alloc (Nat.le_refl _) _).alloc (by simp) _).alloc (by simp; omega) _
  have c1 : W0.heap[w.heap.size + 1]? = some (.cells #[.func (.func g) #[] lb] 50 (0, 0)) := by
    rw [hW0]; have := blk_new (w.alloc (.cells #[.int .i64 (n : Int), .int .i64 (v : Int)] 25)) (.cells #[.func (.func g) #[] lb] 50)
    exact blk_alloc (by simpa using this) _
  have c2 : W0.heap[w.heap.size + 2]? = some (.cells #[.int .i64 0] 3 (0, 0)) := by
    rw [hW0]; have := blk_new ((w.alloc (.cells #[.int .i64 (n : Int), .int .i64 (v : Int)] 25)).alloc (.cells #[.func (.func g) #[] lb] 50)) (.cells #[.int .i64 0] 3)
    simpa using this
  have hsz : W0.heap.size = w.heap.size + 3 := by rw [hW0]; simp
  have hcall : ∀ W, Below W0.heap.size W0 W → Calls Try.prog 39 #[.agg #[.int .i64 (n : Int), .int .i64 (v : Int)], .int .i64 (kk : Int), .func (.func 40) #[] #[.pointer (some ⟨w.heap.size + 2, 0, none⟩), .pointer (some ⟨w.heap.size + 1, 0, none⟩)]] W fun e w' => e = .returned (.bool true) ∧ impl_sumOverCubes.I w (.func (.func g) #[] lb) h (cutAll n v kk N) w' := by
    intro W hb
    refine impl_cubes.call n v kk N hn hN hv hk hsm 40 #[.pointer (some ⟨w.heap.size + 2, 0, none⟩), .pointer (some ⟨w.heap.size + 1, 0, none⟩)] (enters_of Try.func40 (by kernel_rfl) rfl) (impl_sumOverCubes.I w (.func (.func g) #[] lb) h) W ⟨blk_below c1 hb, blk_below c2 hb, HB.trans (hb.mono HB.size)⟩ ?_ ?_
    · intro l W1 W2 hI hb2
      have hw : w.heap.size + 3 ≤ W.heap.size := by have := hb.size; omega
      obtain ⟨i1, i2, i3⟩ := hI
      exact ⟨(hb2.block _ (by omega)).trans i1, (hb2.block _ (by omega)).trans i2, i3.trans (hb2.mono (by omega))⟩
    · intro l x W1 hx hI
      exact impl_sumOverCubes.clo w g lb eg h l W.heap.size kk x (by have := hb.size; omega) W1 hI (fun W' hb' => hp x W' hx hb')
  have HC := Aside0.mk hcall
  have HBB := Aside0.mk HB
  have t0 : W0.cell? ⟨w.heap.size, 0, none⟩ = some (.int .i64 (n : Int)) := by rw [hW0]; exact blk_cell (blk_alloc (blk_alloc (blk_new w _) _) _) 0
  have t1 : W0.cell? ⟨w.heap.size, 1, none⟩ = some (.int .i64 (v : Int)) := by rw [hW0]; exact blk_cell (blk_alloc (blk_alloc (blk_new w _) _) _) 1
  clear hcall HB c1 c2 hsz hp hsm hv hn hk
  generalize cutAll n v kk N = L at *
  generalize hs : impl_sumOverCubes.sum h L = s at *
  have CW := Aside0.mk hW0
  rw [hW0] at t0 t1
  have HSS := Aside0.mk hs
  clear hW0 hs
  go_enter Try.func24, Try.ntmps24
  go_wp2_with (first | (go_at_call 39; rw [← CW.out]; (with_reducible refine (HC.out _ (Below.refl _ _)).mono ?_); rintro e w1 ⟨rfl, hI⟩; have HI := Aside0.mk hI; clear hI; have k2 : w1.cell? ⟨w.heap.size + 1 + 1, 0, none⟩ = some (.int .i64 s) := by (rw [← HSS.out]; exact blk_cell HI.out.2.1 0)))
  go_ret
  exact ⟨rfl, HI.out.2.2⟩
theorem impl_sumOverCubes.bad (a b kk : Int) (q : Bool) (hsm : impl_isSmall.f a b 4 = some q) (h : q = true → kk < 0 ∨ a < kk) (g : Nat) (lb : Array Value) (w : World) :
    Calls Try.prog 24 #[.agg #[.int .i64 a, .int .i64 b], .int .i64 kk, .func (.func g) #[] lb] w fun e w' => e = .returned (.int .i64 (-1)) ∧ Below w.heap.size w w' := by
  have huT := Try.underlying25
  have HC := Aside0.mk (fun fv W => impl_cubes.bad a b kk q hsm h fv W)
  have HB : Aside0 (Below w.heap.size w (((w.alloc (.cells #[.int .i64 a, .int .i64 b] 25)).alloc (.cells #[.func (.func g) #[] lb] 50)).alloc (.cells #[.int .i64 0] 3))) := ⟨(((Below.refl _ _).alloc (Nat.le_refl _) _).alloc (by simp) _).alloc (by simp; omega) _⟩
  clear hsm h
  go_enter Try.func24, Try.ntmps24
  go_wp2_with (first | (go_at_call 39; (with_reducible refine (HC.out _ _).mono ?_); rintro e w1 ⟨rfl, hb⟩))
  go_ret
  exact ⟨rfl, HB.out.trans (hb.mono HB.out.size)⟩


end Go.Proofs.Ythkdjccjcpneiaa.Print
