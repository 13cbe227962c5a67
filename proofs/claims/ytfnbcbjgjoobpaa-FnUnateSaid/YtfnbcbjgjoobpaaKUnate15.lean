/- Functions of the given program as plain Lean functions, with proofs that their calls compute them, or lemmas on these. Laid by a program of this repo for the seat Ytfnbcbjgjoobpaa; Lean checks it. -/
import Derived.Test.YtfnbcbjgjoobpaaKUnate0
import Derived.Test.YtfnbcbjgjoobpaaKUnate13
import Derived.Test.YtfnbcbjgjoobpaaM7
import Derived.Shelf.GgClosure.Gives
namespace Go.Proofs.Ytfnbcbjgjoobpaa.Print
open Go.RowKit Go.Proofs.YtfnbcbjgjoobpaaW.PrintWords Go.Proofs.YtfnbcbjgjoobpaaW.PrintLast Go.Proofs.YtfnbcbjgjoobpaaW.PrintMore
attribute [local go_sem] max2_int min2_int max_two min_two max_three min_three max_four min_four   -- for this text's walks alone
set_option linter.unusedVariables false
set_option linter.unusedSimpArgs false

--OWNPART
/-! ### impl_countTables: function 109 -/
--IMPORT M7
--IMPORT Derived.Shelf.GgClosure.Gives
open Go.Proofs.Ytfnbcbjgjoobpaa.M
/-- the function and the count in memory -/
def impl_countTables.I (w : World) (fv : Value) (c : Nat) (W : World) : Prop :=
  W.heap[w.heap.size]? = some (.cells #[fv] 27 (0, 0)) ∧ W.heap[w.heap.size + 1]? = some (.cells #[.int .i64 (c : Int)] 3 (0, 0)) ∧ Below w.heap.size w W
set_option maxHeartbeats 1600000 in
theorem impl_countTables.clo (w : World) (g : Nat) (lb : Array Value) (eg : ∀ args w, (callFunc g args).run Try.prog w = .ok (.enter g args) w) (n i : Int) (p : Bool) (c : Nat) (hc : c ≤ 1000000) (W : World) (hI : impl_countTables.I w (.func (.func g) #[] lb) c W)
    (hp : ∀ W', Below w.heap.size w W' → Calls Try.prog g (#[.agg #[.int .i64 n, .int .i64 i]] ++ lb) W' fun e W'' => e = .returned (.bool p) ∧ Below W'.heap.size W' W'') :
    Calls Try.prog 172 #[.agg #[.int .i64 n, .int .i64 i], .pointer (some ⟨w.heap.size, 0, none⟩), .pointer (some ⟨w.heap.size + 1, 0, none⟩)] W fun e W' => e = .returned (.tuple #[]) ∧ impl_countTables.I w (.func (.func g) #[] lb) (c + p.toNat) W' := by
  have huT := Try.underlying25
  obtain ⟨h1, h2, h3⟩ := hI
  have F1 : W.cell? ⟨w.heap.size, 0, none⟩ = some (.func (.func g) #[] lb) := blk_cell h1 0
  have L1 := blk_lt h1
  have L2 := blk_lt h2
  have BA : Below W.heap.size W (W.alloc (.cells #[.int .i64 n, .int .i64 i] 25)) := (Below.refl _ _).alloc (Nat.le_refl _) _
  have HP := Aside0.mk (fun nd => hp ((W.alloc (.cells #[.int .i64 n, .int .i64 i] 25)).drewN nd) (pw_below_drewN (h3.trans (BA.mono h3.size)) nd))
  have HP0 := Aside0.mk (hp (W.alloc (.cells #[.int .i64 n, .int .i64 i] 25)) (h3.trans (BA.mono h3.size)))
  have F1' : (W.alloc (.cells #[.int .i64 n, .int .i64 i] 25)).cell? ⟨w.heap.size, 0, none⟩ = some (.func (.func g) #[] lb) := (BA.cell (p := ⟨w.heap.size, 0, none⟩) L1).trans F1
  have D1 := Aside0.mk (blk_below h1 BA)
  have D2 := Aside0.mk (blk_below h2 BA)
  have D3 := Aside0.mk (h3.trans (BA.mono h3.size))
  clear hp h1 h2 h3 BA L1 L2
  cases p with
  | false =>
    go_enter Try.func172, Try.ntmps172
    go_wp2_with (go_at_fn g; refine HP0.out.mono ?_; rintro e w' ⟨rfl, hb'⟩)
    exact bodyPost_end (v := .tuple #[]) (by simp [results, Try.results172]) rfl ⟨rfl, blk_below D1.out hb', blk_below D2.out hb', D3.out.trans (hb'.mono D3.out.size)⟩
  | true =>
    have e1 : wrap64 ((c : Int) + 1) = ((c + 1 : Nat) : Int) := up1 (by omega)
    go_enter Try.func172, Try.ntmps172
    go_wp2_with (go_at_fn g; refine HP0.out.mono ?_; rintro e w' ⟨rfl, hb'⟩; have G2 := Aside0.mk (blk_below D2.out hb'); have g2 : w'.cell? ⟨w.heap.size + 1, 0, none⟩ = some (.int .i64 (c : Int)) := blk_cell G2.out 0; have z2 : w'.frozen? ⟨w.heap.size + 1, 0, none⟩ = false := blk_frozen G2.out 0)
    refine bodyPost_end (v := .tuple #[]) (by simp [results, Try.results172]) rfl ⟨rfl, ?_, ?_, ?_⟩
    · exact blk_far (blk_below D1.out hb') (by show w.heap.size ≠ w.heap.size + 1; omega) _
    · have := blk_set G2.out 0 (.int .i64 ((c + 1 : Nat) : Int))
      first | simpa using this | (rw [← e1] at this; simpa using this)
    · exact (D3.out.trans (hb'.mono D3.out.size)).setCell (p := ⟨w.heap.size + 1, 0, none⟩) (by show w.heap.size ≤ w.heap.size + 1; omega) _
set_option maxHeartbeats 1600000 in
theorem impl_countTables.good (n M : Nat) (hn : n ≤ 4) (hM : M = 2 ^ 2 ^ n) (g : Nat) (lb : Array Value) (eg : ∀ args w, (callFunc g args).run Try.prog w = .ok (.enter g args) w) (p : Nat → Bool) (w : World)
    (hp : ∀ (i : Nat) (W : World), i < M → Below w.heap.size w W → Calls Try.prog g (#[.agg #[.int .i64 (n : Int), .int .i64 (i : Int)]] ++ lb) W fun e W' => e = .returned (.bool (p i)) ∧ Below W.heap.size W W') :
    Calls Try.prog 109 #[.int .i64 (n : Int), .int .i64 4, .func (.func g) #[] lb] w fun e w' => e = .returned (.int .i64 ((cnt p M : Nat) : Int)) ∧ Below w.heap.size w w' := by
  have h16 : 2 ^ n ≤ 16 := Nat.pow_le_pow_right (n := 2) (by decide) hn
  have hM2 : M ≤ 65536 := by rw [hM]; exact Nat.pow_le_pow_right (n := 2) (by decide) h16
  have HA : ∀ W, impl_countTables.I w (.func (.func g) #[] lb) 0 W → Calls Try.prog 171 #[.int .i64 (n : Int), .func (.func 172) #[] #[.pointer (some ⟨w.heap.size, 0, none⟩), .pointer (some ⟨w.heap.size + 1, 0, none⟩)]] W fun e w' => e = .returned (.tuple #[]) ∧ impl_countTables.I w (.func (.func g) #[] lb) (cnt p M) w' := fun W hI =>
    impl_allTables.call n M hn hM 172 #[.pointer (some ⟨w.heap.size, 0, none⟩), .pointer (some ⟨w.heap.size + 1, 0, none⟩)] (enters_of Try.func172 (by kernel_rfl) rfl) (fun i W => impl_countTables.I w (.func (.func g) #[] lb) (cnt p i) W) W hI
      (fun i W hi hI => impl_countTables.clo w g lb eg (n : Int) (i : Int) (p i) (cnt p i) (by have := cnt_le p i; omega) W hI (fun W' hb => hp i W' hi hb))
  have HC := Aside0.mk HA
  have B0 : Aside0 (∀ W, W = (w.alloc (.cells #[.func (.func g) #[] lb] 27)).alloc (.cells #[.int .i64 0] 3) → impl_countTables.I w (.func (.func g) #[] lb) 0 W) := ⟨fun W e => by
    subst e
    refine ⟨blk_alloc (blk_new w _) _, ?_, ((Below.refl _ _).alloc (Nat.le_refl _) _).alloc (by simp) _⟩
    have := blk_new (w.alloc (.cells #[.func (.func g) #[] lb] 27)) (.cells #[.int .i64 0] 3)
    simpa using this⟩
  generalize cnt p M = c at *
  have n4 : decide ((n : Int) > 4) = false := decide_eq_false (by omega)
  have n5 : decide (4 < (n : Int)) = false := decide_eq_false (by omega)
  clear HA hp hM hM2 h16
  go_enter Try.func109, Try.ntmps109
  go_wp2_with (first | (go_at_call 171; (with_reducible refine (HC.out _ (B0.out _ rfl)).mono ?_); rintro e w1 ⟨rfl, hI⟩; have HI := Aside0.mk hI; clear hI; have g2 : w1.cell? ⟨w.heap.size + 1, 0, none⟩ = some (.int .i64 (c : Int)) := blk_cell HI.out.2.1 0))
  go_ret
  exact ⟨rfl, HI.out.2.2⟩
theorem impl_countTables.bad (a : Int) (g : Nat) (lb : Array Value) (w : World) (h : ¬ (0 ≤ a ∧ a ≤ 4)) :
    Calls Try.prog 109 #[.int .i64 a, .int .i64 4, .func (.func g) #[] lb] w fun e w' => e = .returned (.int .i64 (-1)) ∧ Below w.heap.size w w' := by
  by_cases h0 : a < 0
  · have n0 : decide (a < 0) = true := decide_eq_true h0
    clear h
    go_enter Try.func109, Try.ntmps109
    go_wp2_with (fail)
    go_ret
    exact ⟨rfl, by repeat (first | exact Below.refl _ _ | (refine Below.alloc ?_ (by simp) _) | apply pw_below_drewN)⟩
  · have n0 : decide (a < 0) = false := decide_eq_false h0
    have n4 : decide (a > 4) = true := decide_eq_true (by omega)
    have n5 : decide (4 < a) = true := decide_eq_true (by omega)
    clear h h0
    go_enter Try.func109, Try.ntmps109
    go_wp2_with (fail)
    go_ret
    exact ⟨rfl, by repeat (first | exact Below.refl _ _ | (refine Below.alloc ?_ (by simp) _) | apply pw_below_drewN)⟩


end Go.Proofs.Ytfnbcbjgjoobpaa.Print
