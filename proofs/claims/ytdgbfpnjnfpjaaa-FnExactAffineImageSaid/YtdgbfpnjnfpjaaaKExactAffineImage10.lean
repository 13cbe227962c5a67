/- Functions of the given program as plain Lean functions, with proofs that their calls compute them, or lemmas on these. Laid by a program of this repo for the seat Ytdgbfpnjnfpjaaa; Lean checks it. -/
import Derived.Test.YtdgbfpnjnfpjaaaKExactAffineImage0
import Derived.Test.YtdgbfpnjnfpjaaaKExactAffineImage5
import Derived.Test.YtdgbfpnjnfpjaaaKExactAffineImage6
import Derived.Test.YtdgbfpnjnfpjaaaKExactAffineImage7
import Derived.Test.YtdgbfpnjnfpjaaaKExactAffineImage8
import Derived.Test.YtdgbfpnjnfpjaaaKExactAffineImage9
import Derived.Test.YtdgbfpnjnfpjaaaM5
import Derived.Deep.RegionHeld3
namespace Go.Proofs.Ytdgbfpnjnfpjaaa.Print
open Go.RowKit Go.Proofs.YtdgbfpnjnfpjaaaW.PrintWords Go.Proofs.YtdgbfpnjnfpjaaaW.PrintLast Go.Proofs.YtdgbfpnjnfpjaaaW.PrintMore
attribute [local go_sem] max2_int min2_int max_two min_two max_three min_three max_four min_four   -- for this text's walks alone
set_option linter.unusedVariables false
set_option linter.unusedSimpArgs false

--OWNPART
/-! ### impl_AffineImage: function 29 -/
--IMPORT M5
--IMPORT Derived.Deep.RegionHeld3
open Go.Proofs.Ytdgbfpnjnfpjaaa.M
/-- the captured variables: a table, a list, a number -/
def impl_AffineImage.rS (w : World) (F I B : Nat) (n v s : Int) (A : Option Addr) (len c : Nat) (W : World) : Prop :=
  W.cell? ⟨F, 0, none⟩ = some (.int .i64 n) ∧ W.cell? ⟨F, 1, none⟩ = some (.int .i64 v) ∧ W.cell? ⟨I, 0, none⟩ = some (.slice A len c) ∧ W.cell? ⟨B, 0, none⟩ = some (.int .i64 s) ∧ Below w.heap.size w W
theorem impl_AffineImage.rS.step {w : World} {F I B : Nat} {n v s : Int} {A : Option Addr} {len c : Nat} {W W' : World} (hF : F < w.heap.size) (hI : I < w.heap.size) (hB : B < w.heap.size) (h : impl_AffineImage.rS w F I B n v s A len c W) (hb : Below W.heap.size W W') : impl_AffineImage.rS w F I B n v s A len c W' := by
  obtain ⟨h1, h2, h3, h4, h5⟩ := h
  have hs := h5.size
  exact ⟨(hb.cell (p := ⟨F, 0, none⟩) (by show F < _; omega)).trans h1, (hb.cell (p := ⟨F, 1, none⟩) (by show F < _; omega)).trans h2, (hb.cell (p := ⟨I, 0, none⟩) (by show I < _; omega)).trans h3, (hb.cell (p := ⟨B, 0, none⟩) (by show B < _; omega)).trans h4, h5.trans (hb.mono hs)⟩
theorem impl_AffineImage.rS.bel {w : World} {F I B : Nat} {n v s : Int} {A : Option Addr} {len c : Nat} {W : World} (h : impl_AffineImage.rS w F I B n v s A len c W) : Below w.heap.size w W := h.2.2.2.2
set_option maxHeartbeats 800000 in
theorem impl_AffineImage.clo (k : Nat) (n v s x y r : Int) (A : Option Addr) (c : Nat) (l : List Int) (F I B : Nat) (w : World) (hF : F < w.heap.size) (hI : I < w.heap.size) (hB : B < w.heap.size)
    (hr : Kd.C (Kd.int .i64) w A l.length l) (hc : l.length ≤ c)
    (f0 : w.cell? ⟨F, 0, none⟩ = some (.int .i64 n)) (f1 : w.cell? ⟨F, 1, none⟩ = some (.int .i64 v)) (fi : w.cell? ⟨I, 0, none⟩ = some (.slice A l.length c)) (fb : w.cell? ⟨B, 0, none⟩ = some (.int .i64 s))
    (hs : impl_image.f k l x = some y) (ha : impl_Table_at.f n v (Go.bits .xor .i64 y s) = some r) :
    Calls Try.prog 59 #[.int .i64 x, .pointer (some ⟨F, 0, none⟩), .pointer (some ⟨I, 0, none⟩), .pointer (some ⟨B, 0, none⟩)] w fun e w' => e = .returned (.bool (r == 1)) ∧ Below w.heap.size w w' := by
  have A1 := Aside0.mk hs
  have A2 := Aside0.mk ha
  have HR := Aside0.mk hr
  have HC := Aside0.mk hc
  clear hs ha hr hc
  have huT := Try.underlying35
  go_enter Try.func59, Try.ntmps59
  go_wp2
  have h0 : impl_AffineImage.rS w F I B n v s A l.length c w.drew := ⟨f0, f1, fi, fb, (Below.refl _ _).drew⟩
  go_region_held3 (fun W => W.cell? ⟨F, 0, none⟩ = some (.int .i64 n) ∧ W.cell? ⟨F, 1, none⟩ = some (.int .i64 v) ∧ W.cell? ⟨I, 0, none⟩ = some (.slice A l.length c) ∧ W.cell? ⟨B, 0, none⟩ = some (.int .i64 s) ∧ Below w.heap.size w W) (first | exact h0 | (refine impl_AffineImage.rS.step hF hI hB (by assumption) ?_; first | assumption | (refine Drawn0.below ?_; assumption) | exact Below.refl _ _))
    (first | (go_at_call 54; (with_reducible refine (impl_image.calls k A c l x y _ ?side HC.out A1.out).mono ?_); (case side => exact Kd.C_below HR.out (impl_AffineImage.rS.bel (by assumption))); rintro e w' ⟨rfl, hd⟩) | (go_at_call 60; (with_reducible refine (impl_Table_at.calls n v _ r _ A2.out).mono ?_); rintro e w' ⟨rfl, hb⟩))
  go_wp2
  go_ret
  exact ⟨rfl, (by assumption : _ ∧ _ ∧ _ ∧ _ ∧ _).2.2.2.2⟩

set_option maxHeartbeats 1600000 in
theorem impl_AffineImage.aux (N M : Nat) (hN : N ≤ 5) (hM : M ≤ 32) (e10 : wrap64 ((2 : Int) ^ N) = (M : Int)) (g : Nat → Bool) (F I B : Nat) (w : World)
    (hc : ∀ (x : Nat) (W : World), x < M → Below w.heap.size w W → Calls Try.prog 59 #[.int .i64 (x : Int), .pointer (some ⟨F, 0, none⟩), .pointer (some ⟨I, 0, none⟩), .pointer (some ⟨B, 0, none⟩)] W fun e W' => e = .returned (.bool (g x)) ∧ Below W.heap.size W W') :
    Calls Try.prog 58 #[.int .i64 (N : Int), .func (.func 59) #[] #[.pointer (some ⟨F, 0, none⟩), .pointer (some ⟨I, 0, none⟩), .pointer (some ⟨B, 0, none⟩)]] w fun e w' => e = .returned (.agg #[.int .i64 (N : Int), .int .i64 ((prefW g M : Nat) : Int)]) ∧ Below w.heap.size w w' := by
  have huT := Try.underlying35
  have hH := Aside0.mk hc
  clear hc
  have hS := Aside0.mk (impl_makeTable.I.start w N g)
  go_enter Try.func58, Try.ntmps58
  go_wp2
  rw [e10]
  clear e10
  go_loopw [11] (fun v11 wr => ∃ x : Nat, x ≤ M ∧ v11 = .int .i64 (x : Int) ∧ Aside0 (impl_makeTable.I w N g x wr)) (fun v11 _ => M - (intOf v11).toNat)
  case atStart => exact ⟨0, Nat.zero_le _, rfl, hS⟩
  case round =>
    obtain ⟨x, hx, rfl, HI⟩ := hrel
    clear hS
    have c0 : wr.cell? ⟨w.heap.size, 0, none⟩ = some (.int .i64 0) := blk_cell HI.out.1 0
    have c1 : wr.cell? ⟨w.heap.size, 1, none⟩ = some (.int .i64 0) := blk_cell HI.out.1 1
    have z0 := blk_frozen HI.out.1 0
    have z1 := blk_frozen HI.out.1 1
    have d0 : wr.cell? ⟨w.heap.size + 1, 0, none⟩ = some (.int .i64 (N : Int)) := blk_cell HI.out.2.1 0
    have d1 : wr.cell? ⟨w.heap.size + 1, 1, none⟩ = some (.int .i64 ((prefW g x : Nat) : Int)) := blk_cell HI.out.2.1 1
    by_cases hlt : x < M
    · have hC := Aside0.mk (hH.out x wr hlt HI.out.2.2)
      cases hg : g x with
      | false =>
        rw [hg] at hC
        have HG := Aside0.mk hg
        clear hg
        go_wp2_with (first | (go_at_call 59; (with_reducible refine hC.out.mono ?_); rintro e w1 ⟨rfl, hb⟩))
        go_roundw
        case rel => exact ⟨x + 1, by omega, by go_num, ⟨(HI.out.call hb).skip HG.out⟩⟩
        case measure => simp [intOf]; omega
      | true =>
        rw [hg] at hC
        have HG := Aside0.mk hg
        clear hg
        go_wp2_with (first | (go_at_call 59; (with_reducible refine hC.out.mono ?_); rintro e w1 ⟨rfl, hb⟩))
        have HI1 := Aside0.mk (HI.out.call hb)
        have d1' : w1.cell? ⟨w.heap.size + 1, 1, none⟩ = some (.int .i64 ((prefW g x : Nat) : Int)) := blk_cell HI1.out.2.1 1
        have z1' : w1.frozen? ⟨w.heap.size + 1, 1, none⟩ = false := blk_frozen HI1.out.2.1 1
        clear c0 c1 z0 z1 d0 d1
        go_region
        all_goals
          go_wp2
          go_roundw
          case rel =>
            refine ⟨x + 1, by omega, by go_num, ?_⟩
            · exact ⟨(HI1.out.set HG.out (by omega) (by rw [show shl .i64 1 (x : Int) = wrap64 (2 ^ x) from by unfold shl; rw [min_bits (by omega), Int.one_mul, i64_w]])).drew⟩
          case measure => simp [intOf]; omega
    · obtain rfl : x = M := by omega
      go_wp2
      exact bodyPost_ret (v := .agg #[.int .i64 (N : Int), .int .i64 ((prefW g x : Nat) : Int)]) (by simp [results, Try.results58, go_sem, c0, c1, d0, d1]) rfl ⟨rfl, (HI.out.2.2.setCell (p := ⟨w.heap.size, 0, none⟩) (Nat.le_refl _) _).setCell (p := ⟨w.heap.size, 1, none⟩) (Nat.le_refl _) _⟩

def impl_AffineImage.f (a0_0 : Int) (a0_1 : Int) (l1 : List Int) (a2 : Int) : Option (Int × Int × Bool) :=
  (impl_hasInput.f a0_0 a0_1 a2).bind fun q => if q = true then (if invB a0_0 l1 = true then (if 0 ≤ a0_1 ∧ a0_1 < 4294967296 ∧ 0 ≤ a2 ∧ a2 < 32 then some (a0_0, ((prefW (fun x => a0_1.toNat.testBit (img (cols l1) x a0_0.toNat ^^^ a2.toNat)) (2 ^ a0_0.toNat) : Nat) : Int), true) else none) else some (0, 0, false)) else some (0, 0, false)
theorem impl_AffineImage.at_bit {n v y : Nat} (hv : v < 2 ^ 63) (hy : y ≤ 63) : impl_Table_at.f (n : Int) (v : Int) (y : Int) = some (((v.testBit y).toNat : Nat) : Int) := by
  unfold impl_Table_at.f
  rw [if_pos (Int.natCast_nonneg y), bit_nat hv (by omega)]
theorem impl_AffineImage.mk {n v s : Nat} {l : List Int} (hi : invB (n : Int) l = true) (hv : v < 4294967296) (hs : s < 32) (F I B : Nat) (A : Option Addr) (c : Nat) (w : World) (hF : F < w.heap.size) (hI : I < w.heap.size) (hB : B < w.heap.size)
    (hr : Kd.C (Kd.int .i64) w A l.length l) (hc : l.length ≤ c)
    (f0 : w.cell? ⟨F, 0, none⟩ = some (.int .i64 (n : Int))) (f1 : w.cell? ⟨F, 1, none⟩ = some (.int .i64 (v : Int))) (fi : w.cell? ⟨I, 0, none⟩ = some (.slice A l.length c)) (fb : w.cell? ⟨B, 0, none⟩ = some (.int .i64 (s : Int))) :
    Calls Try.prog 58 #[.int .i64 (n : Int), .func (.func 59) #[] #[.pointer (some ⟨F, 0, none⟩), .pointer (some ⟨I, 0, none⟩), .pointer (some ⟨B, 0, none⟩)]] w fun e w' => e = .returned (.agg #[.int .i64 (n : Int), .int .i64 ((prefW (fun x => v.testBit (img (cols l) x n ^^^ s)) (2 ^ n) : Nat) : Int)]) ∧ Below w.heap.size w w' := by
  obtain ⟨n', e, hn, hl, hcol, _⟩ := invB_open hi
  obtain rfl : n = n' := by omega
  have h16 : 2 ^ n ≤ 32 := pow_le_5 hn
  have e10 : wrap64 ((2 : Int) ^ n) = ((2 ^ n : Nat) : Int) := by
    have : ((2 : Int) ^ n) = ((2 ^ n : Nat) : Int) := by push_cast; rfl
    rw [this]
    obtain ⟨P, hP⟩ : ∃ P, P = 2 ^ n := ⟨_, rfl⟩
    rw [← hP] at h16 ⊢
    exact w64 (by omega) (by omega)
  refine impl_AffineImage.aux n (2 ^ n) (by omega) (by omega) e10 _ F I B w (fun x W hx hb' => ?_)
  clear e10
  obtain ⟨k, hk⟩ := (impl_IsInvertible.image_ev (x := x) hl hn (cols32 hn hcol) (by omega)).rounds
  have h3 : img (cols l) x n < 2 ^ n := img_lt x (fun j hj => (hcol j hj).1)
  have hy : img (cols l) x n ^^^ s < 2 ^ 5 := Nat.xor_lt_two_pow (by omega) (by omega)
  have ex : Go.bits .xor .i64 ((img (cols l) x n : Nat) : Int) (s : Int) = ((img (cols l) x n ^^^ s : Nat) : Int) := xor_nat (by omega) (by omega)
  have ha := impl_AffineImage.at_bit (n := n) (v := v) (y := img (cols l) x n ^^^ s) (by omega) (by omega)
  rw [← ex] at ha
  have hcl := impl_AffineImage.clo k n v s x _ _ A c l F I B W (Nat.lt_of_lt_of_le hF hb'.size) (Nat.lt_of_lt_of_le hI hb'.size) (Nat.lt_of_lt_of_le hB hb'.size) (Kd.C_below hr hb') hc
    ((hb'.cell (p := ⟨F, 0, none⟩) hF).trans f0) ((hb'.cell (p := ⟨F, 1, none⟩) hF).trans f1) ((hb'.cell (p := ⟨I, 0, none⟩) hI).trans fi) ((hb'.cell (p := ⟨B, 0, none⟩) hB).trans fb) hk ha
  rw [toNat_beq1] at hcl
  exact hcl
set_option maxHeartbeats 1600000 in
theorem impl_AffineImage.good (n v s : Nat) (A1 : Option Addr) (c1 : Nat) (l1 : List Int) (w : World) (hr1 : Kd.C (Kd.int .i64) w A1 l1.length l1) (hc1 : l1.length ≤ c1) (hq : impl_hasInput.f (n : Int) (v : Int) (s : Int) = some true)
    (hi : invB (n : Int) l1 = true) (hv : v < 4294967296) (hs : s < 32) :
    Calls Try.prog 29 #[.agg #[.int .i64 (n : Int), .int .i64 (v : Int)], .slice A1 l1.length c1, .int .i64 (s : Int)] w fun e w' => e = .returned (.tuple #[.agg #[.int .i64 (n : Int), .int .i64 ((prefW (fun x => v.testBit (img (cols l1) x n ^^^ s)) (2 ^ n) : Nat) : Int)], .bool true]) ∧ Below w.heap.size w w' := by
  have huT := Try.underlying35
  obtain ⟨W0, hW0⟩ : ∃ W0, W0 = ((((w.alloc (.cells #[.int .i64 (n : Int), .int .i64 (v : Int)] 35)).alloc (.cells #[.slice A1 l1.length c1] 22)).alloc (.cells #[.int .i64 (s : Int)] 3)).alloc (.cells #[.int .i64 0, .int .i64 0] 35)) := ⟨_, rfl⟩
  have HB : Below w.heap.size w W0 := by rw [hW0]; exact ((((Below.refl _ _).alloc (Nat.le_refl _) _).alloc (by simp) _).alloc (by simp; omega) _).alloc (by simp; omega) _
  have c0 : W0.heap[w.heap.size]? = some (.cells #[.int .i64 (n : Int), .int .i64 (v : Int)] 35 (0, 0)) := by rw [hW0]; exact blk_alloc (blk_alloc (blk_alloc (blk_new w _) _) _) _
  have c1' : W0.heap[w.heap.size + 1]? = some (.cells #[.slice A1 l1.length c1] 22 (0, 0)) := by
    rw [hW0]; have := blk_new (w.alloc (.cells #[.int .i64 (n : Int), .int .i64 (v : Int)] 35)) (.cells #[.slice A1 l1.length c1] 22)
    exact blk_alloc (blk_alloc (by simpa using this) _) _
  have c2 : W0.heap[w.heap.size + 2]? = some (.cells #[.int .i64 (s : Int)] 3 (0, 0)) := by
    rw [hW0]; have := blk_new ((w.alloc (.cells #[.int .i64 (n : Int), .int .i64 (v : Int)] 35)).alloc (.cells #[.slice A1 l1.length c1] 22)) (.cells #[.int .i64 (s : Int)] 3)
    exact blk_alloc (by simpa using this) _
  have c3 : W0.heap[w.heap.size + 3]? = some (.cells #[.int .i64 0, .int .i64 0] 35 (0, 0)) := by
    rw [hW0]; have := blk_new (((w.alloc (.cells #[.int .i64 (n : Int), .int .i64 (v : Int)] 35)).alloc (.cells #[.slice A1 l1.length c1] 22)).alloc (.cells #[.int .i64 (s : Int)] 3)) (.cells #[.int .i64 0, .int .i64 0] 35)
    simpa using this
  have CW := Aside0.mk hW0
  have A1' := Aside0.mk hq
  have C2 : Aside0 (∀ W, Below W0.heap.size W0 W → Calls Try.prog 17 #[.int .i64 (n : Int), .slice A1 l1.length c1] W fun e W' => e = .returned (.bool true) ∧ Below W.heap.size W W') := ⟨fun W hb => impl_IsInvertible.calls (n : Int) A1 c1 l1 true W (Kd.C_below (Kd.C_below hr1 HB) hb) hc1 (by show some (invB _ _) = _; rw [hi])⟩
  have C3 : Aside0 (∀ W, Below W0.heap.size W0 W → Calls Try.prog 58 #[.int .i64 (n : Int), .func (.func 59) #[] #[.pointer (some ⟨w.heap.size, 0, none⟩), .pointer (some ⟨w.heap.size + 1, 0, none⟩), .pointer (some ⟨w.heap.size + 2, 0, none⟩)]] W fun e w' => e = .returned (.agg #[.int .i64 (n : Int), .int .i64 ((prefW (fun x => v.testBit (img (cols l1) x n ^^^ s)) (2 ^ n) : Nat) : Int)]) ∧ Below W.heap.size W w') := ⟨fun W hb =>
    impl_AffineImage.mk hi hv hs w.heap.size (w.heap.size + 1) (w.heap.size + 2) A1 c1 W (Nat.lt_of_lt_of_le (blk_lt c0) hb.size) (Nat.lt_of_lt_of_le (blk_lt c1') hb.size) (Nat.lt_of_lt_of_le (blk_lt c2) hb.size) (Kd.C_below (Kd.C_below hr1 HB) hb) hc1
      (blk_cell (blk_below c0 hb) 0) (blk_cell (blk_below c0 hb) 1) (blk_cell (blk_below c1' hb) 0) (blk_cell (blk_below c2 hb) 0)⟩
  have HBB := Aside0.mk HB
  have D0 := Aside0.mk c0
  have D1 := Aside0.mk c1'
  have D2 := Aside0.mk c2
  have D3 := Aside0.mk c3
  clear hW0 HB c0 c1' c2 c3 hr1 hc1 hq hi hv hs
  generalize ((prefW (fun x => v.testBit (img (cols l1) x n ^^^ s)) (2 ^ n) : Nat) : Int) = R at *
  go_enter Try.func29, Try.ntmps29
  go_wp2_with (first
    | (go_at_call 57; rw [← CW.out]; (with_reducible refine (impl_hasInput.calls (n : Int) (v : Int) (s : Int) true _ A1'.out).mono ?_); rintro e w1 ⟨rfl, hb1⟩; have B1 := Aside0.mk hb1; clear hb1; have p0 : w1.cell? ⟨w.heap.size, 0, none⟩ = some (.int .i64 (n : Int)) := blk_cell (blk_below D0.out B1.out) 0; have p1 : w1.cell? ⟨w.heap.size, 1, none⟩ = some (.int .i64 (v : Int)) := blk_cell (blk_below D0.out B1.out) 1; have p2 : w1.cell? ⟨w.heap.size + 1, 0, none⟩ = some (.slice A1 l1.length c1) := blk_cell (blk_below D1.out B1.out) 0; have p3 : w1.cell? ⟨w.heap.size + 1 + 1, 0, none⟩ = some (.int .i64 (s : Int)) := blk_cell (blk_below D2.out B1.out) 0)
    | (go_at_call 17; (with_reducible refine (C2.out w1 B1.out).mono ?_); rintro e w2 ⟨rfl, hb2⟩; have B2 := Aside0.mk (B1.out.trans (hb2.mono B1.out.size)); clear hb2; have q0 : w2.cell? ⟨w.heap.size, 0, none⟩ = some (.int .i64 (n : Int)) := blk_cell (blk_below D0.out B2.out) 0; have q1 : w2.cell? ⟨w.heap.size, 1, none⟩ = some (.int .i64 (v : Int)) := blk_cell (blk_below D0.out B2.out) 1; have q2 : w2.cell? ⟨w.heap.size + 1, 0, none⟩ = some (.slice A1 l1.length c1) := blk_cell (blk_below D1.out B2.out) 0; have q3 : w2.cell? ⟨w.heap.size + 1 + 1, 0, none⟩ = some (.int .i64 (s : Int)) := blk_cell (blk_below D2.out B2.out) 0)
    | (go_at_call 58; (with_reducible refine (C3.out w2 B2.out).mono ?_); rintro e w3 ⟨rfl, hb3⟩; have B3 := Aside0.mk (B2.out.trans (hb3.mono B2.out.size)); clear hb3; have RB := Aside0.mk (blk_below D3.out B3.out); have r0 : w3.cell? ⟨w.heap.size + 1 + 1 + 1, 0, none⟩ = some (.int .i64 0) := blk_cell RB.out 0; have r1 : w3.cell? ⟨w.heap.size + 1 + 1 + 1, 1, none⟩ = some (.int .i64 0) := blk_cell RB.out 1; have z0 : w3.frozen? ⟨w.heap.size + 1 + 1 + 1, 0, none⟩ = false := blk_frozen RB.out 0; have z1 : w3.frozen? ⟨w.heap.size + 1 + 1 + 1, 1, none⟩ = false := blk_frozen RB.out 1))
  have BE := HBB.out.trans (B3.out.mono HBB.out.size)
  exact bodyPost_ret (v := .tuple #[.agg #[.int .i64 (n : Int), .int .i64 R], .bool true]) (by simp [results, Try.results29, go_sem, r0, r1]) rfl ⟨rfl, (BE.setCell (p := ⟨w.heap.size + 1 + 1 + 1, 0, none⟩) (by show w.heap.size ≤ w.heap.size + 1 + 1 + 1; omega) _).setCell (p := ⟨w.heap.size + 1 + 1 + 1, 1, none⟩) (by show w.heap.size ≤ w.heap.size + 1 + 1 + 1; omega) _⟩
set_option maxHeartbeats 1600000 in
theorem impl_AffineImage.bad (a b s : Int) (A1 : Option Addr) (c1 : Nat) (l1 : List Int) (w : World) (hr1 : Kd.C (Kd.int .i64) w A1 l1.length l1) (hc1 : l1.length ≤ c1) (q : Bool) (hq : impl_hasInput.f a b s = some q)
    (hi : q = true → invB a l1 = false) :
    Calls Try.prog 29 #[.agg #[.int .i64 a, .int .i64 b], .slice A1 l1.length c1, .int .i64 s] w fun e w' => e = .returned (.tuple #[.agg #[.int .i64 0, .int .i64 0], .bool false]) ∧ Below w.heap.size w w' := by
  have huT := Try.underlying35
  obtain ⟨W0, hW0⟩ : ∃ W0, W0 = ((((w.alloc (.cells #[.int .i64 a, .int .i64 b] 35)).alloc (.cells #[.slice A1 l1.length c1] 22)).alloc (.cells #[.int .i64 s] 3)).alloc (.cells #[.int .i64 0, .int .i64 0] 35)) := ⟨_, rfl⟩
  have HB : Below w.heap.size w W0 := by rw [hW0]; exact ((((Below.refl _ _).alloc (Nat.le_refl _) _).alloc (by simp) _).alloc (by simp; omega) _).alloc (by simp; omega) _
  have c0 : W0.heap[w.heap.size]? = some (.cells #[.int .i64 a, .int .i64 b] 35 (0, 0)) := by rw [hW0]; exact blk_alloc (blk_alloc (blk_alloc (blk_new w _) _) _) _
  have c1' : W0.heap[w.heap.size + 1]? = some (.cells #[.slice A1 l1.length c1] 22 (0, 0)) := by
    rw [hW0]; have := blk_new (w.alloc (.cells #[.int .i64 a, .int .i64 b] 35)) (.cells #[.slice A1 l1.length c1] 22)
    exact blk_alloc (blk_alloc (by simpa using this) _) _
  have c3 : W0.heap[w.heap.size + 3]? = some (.cells #[.int .i64 0, .int .i64 0] 35 (0, 0)) := by
    rw [hW0]; have := blk_new (((w.alloc (.cells #[.int .i64 a, .int .i64 b] 35)).alloc (.cells #[.slice A1 l1.length c1] 22)).alloc (.cells #[.int .i64 s] 3)) (.cells #[.int .i64 0, .int .i64 0] 35)
    simpa using this
  have CW := Aside0.mk hW0
  have A1' := Aside0.mk hq
  have HBB := Aside0.mk HB
  have D0 := Aside0.mk c0
  have D1 := Aside0.mk c1'
  have D3 := Aside0.mk c3
  cases q with
  | false =>
    clear hW0 HB c0 c1' c3 hr1 hc1 hq hi
    go_enter Try.func29, Try.ntmps29
    go_wp2_with (first
      | (go_at_call 57; rw [← CW.out]; (with_reducible refine (impl_hasInput.calls a b s false _ A1'.out).mono ?_); rintro e w1 ⟨rfl, hb1⟩; have B1 := Aside0.mk hb1; clear hb1; have RB := Aside0.mk (blk_below D3.out B1.out); have r0 : w1.cell? ⟨w.heap.size + 1 + 1 + 1, 0, none⟩ = some (.int .i64 0) := blk_cell RB.out 0; have r1 : w1.cell? ⟨w.heap.size + 1 + 1 + 1, 1, none⟩ = some (.int .i64 0) := blk_cell RB.out 1; have z0 : w1.frozen? ⟨w.heap.size + 1 + 1 + 1, 0, none⟩ = false := blk_frozen RB.out 0; have z1 : w1.frozen? ⟨w.heap.size + 1 + 1 + 1, 1, none⟩ = false := blk_frozen RB.out 1))
    have BE := HBB.out.trans (B1.out.mono HBB.out.size)
    exact bodyPost_ret (v := .tuple #[.agg #[.int .i64 0, .int .i64 0], .bool false]) (by simp [results, Try.results29, go_sem, r0, r1]) rfl ⟨rfl, (BE.setCell (p := ⟨w.heap.size + 1 + 1 + 1, 0, none⟩) (by show w.heap.size ≤ w.heap.size + 1 + 1 + 1; omega) _).setCell (p := ⟨w.heap.size + 1 + 1 + 1, 1, none⟩) (by show w.heap.size ≤ w.heap.size + 1 + 1 + 1; omega) _⟩
  | true =>
    have hi := hi rfl
    have C2 : Aside0 (∀ W, Below W0.heap.size W0 W → Calls Try.prog 17 #[.int .i64 a, .slice A1 l1.length c1] W fun e W' => e = .returned (.bool false) ∧ Below W.heap.size W W') := ⟨fun W hb => impl_IsInvertible.calls a A1 c1 l1 false W (Kd.C_below (Kd.C_below hr1 HB) hb) hc1 (by show some (invB _ _) = _; rw [hi])⟩
    clear hW0 HB c0 c1' c3 hr1 hc1 hq hi
    go_enter Try.func29, Try.ntmps29
    go_wp2_with (first
      | (go_at_call 57; rw [← CW.out]; (with_reducible refine (impl_hasInput.calls a b s true _ A1'.out).mono ?_); rintro e w1 ⟨rfl, hb1⟩; have B1 := Aside0.mk hb1; clear hb1; have p0 : w1.cell? ⟨w.heap.size, 0, none⟩ = some (.int .i64 a) := blk_cell (blk_below D0.out B1.out) 0; have p2 : w1.cell? ⟨w.heap.size + 1, 0, none⟩ = some (.slice A1 l1.length c1) := blk_cell (blk_below D1.out B1.out) 0)
      | (go_at_call 17; (with_reducible refine (C2.out w1 B1.out).mono ?_); rintro e w2 ⟨rfl, hb2⟩; have B2 := Aside0.mk (B1.out.trans (hb2.mono B1.out.size)); clear hb2; have RB := Aside0.mk (blk_below D3.out B2.out); have r0 : w2.cell? ⟨w.heap.size + 1 + 1 + 1, 0, none⟩ = some (.int .i64 0) := blk_cell RB.out 0; have r1 : w2.cell? ⟨w.heap.size + 1 + 1 + 1, 1, none⟩ = some (.int .i64 0) := blk_cell RB.out 1; have z0 : w2.frozen? ⟨w.heap.size + 1 + 1 + 1, 0, none⟩ = false := blk_frozen RB.out 0; have z1 : w2.frozen? ⟨w.heap.size + 1 + 1 + 1, 1, none⟩ = false := blk_frozen RB.out 1))
    have BE := HBB.out.trans (B2.out.mono HBB.out.size)
    exact bodyPost_ret (v := .tuple #[.agg #[.int .i64 0, .int .i64 0], .bool false]) (by simp [results, Try.results29, go_sem, r0, r1]) rfl ⟨rfl, (BE.setCell (p := ⟨w.heap.size + 1 + 1 + 1, 0, none⟩) (by show w.heap.size ≤ w.heap.size + 1 + 1 + 1; omega) _).setCell (p := ⟨w.heap.size + 1 + 1 + 1, 1, none⟩) (by show w.heap.size ≤ w.heap.size + 1 + 1 + 1; omega) _⟩
theorem impl_AffineImage.calls (a0_0 : Int) (a0_1 : Int) (A1 : Option Addr) (c1 : Nat) (l1 : List Int) (a2 : Int) (r1 : Int) (r2 : Int) (r3 : Bool) (w : World) (hr1 : Kd.C (Kd.int .i64) w A1 l1.length l1) (hc1 : l1.length ≤ c1) (h : impl_AffineImage.f a0_0 a0_1 l1 a2 = some (r1, r2, r3)) :
    Calls Try.prog 29 #[.agg #[.int .i64 a0_0, .int .i64 a0_1], .slice A1 l1.length c1, .int .i64 a2] w fun e w' => e = .returned (.tuple #[.agg #[.int .i64 r1, .int .i64 r2], .bool r3]) ∧ Below w.heap.size w w' := by
  unfold impl_AffineImage.f at h
  obtain ⟨q, hq, h⟩ := Option.bind_eq_some_iff.mp h
  cases q with
  | false =>
    rw [if_neg (by decide)] at h
    simp only [Option.some.injEq, Prod.mk.injEq] at h
    obtain ⟨rfl, rfl, rfl⟩ := h
    exact impl_AffineImage.bad a0_0 a0_1 a2 A1 c1 l1 w hr1 hc1 false hq (fun e => by cases e)
  | true =>
    rw [if_pos rfl] at h
    cases hi : invB a0_0 l1 with
    | false =>
      rw [hi, if_neg (by decide)] at h
      simp only [Option.some.injEq, Prod.mk.injEq] at h
      obtain ⟨rfl, rfl, rfl⟩ := h
      exact impl_AffineImage.bad a0_0 a0_1 a2 A1 c1 l1 w hr1 hc1 true hq (fun _ => hi)
    | true =>
      rw [hi, if_pos rfl] at h
      by_cases hc : 0 ≤ a0_1 ∧ a0_1 < 4294967296 ∧ 0 ≤ a2 ∧ a2 < 32
      · rw [if_pos hc] at h
        obtain ⟨d1, d2, d3, d4⟩ := hc
        obtain ⟨n, rfl, _⟩ := invB_open hi
        obtain ⟨v, rfl⟩ := nat_of d1
        obtain ⟨s, rfl⟩ := nat_of d3
        simp only [Option.some.injEq, Prod.mk.injEq, Int.toNat_natCast] at h
        obtain ⟨rfl, rfl, rfl⟩ := h
        exact impl_AffineImage.good n v s A1 c1 l1 w hr1 hc1 hq hi (by omega) (by omega)
      · rw [if_neg hc] at h; cases h


end Go.Proofs.Ytdgbfpnjnfpjaaa.Print
