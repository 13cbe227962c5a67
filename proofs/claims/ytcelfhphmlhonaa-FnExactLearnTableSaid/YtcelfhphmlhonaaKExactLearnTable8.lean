/- Functions of the given program as plain Lean functions, with proofs that their calls compute them, or lemmas on these. Laid by a program of this repo for the seat Ytcelfhphmlhonaa; Lean checks it. -/
import Derived.Test.YtcelfhphmlhonaaKExactLearnTable0
import Derived.Test.YtcelfhphmlhonaaKExactLearnTable2
import Derived.Test.YtcelfhphmlhonaaKExactLearnTable3
import Derived.Test.YtcelfhphmlhonaaKExactLearnTable5
import Derived.Test.YtcelfhphmlhonaaKExactLearnTable6
import Derived.Test.YtcelfhphmlhonaaM5
import Derived.Shelf.GgClosure.Gives
import Derived.Deep.RegionHeld3
namespace Go.Proofs.Ytcelfhphmlhonaa.Print
open Go.RowKit Go.Proofs.YtcelfhphmlhonaaW.PrintWords Go.Proofs.YtcelfhphmlhonaaW.PrintLast Go.Proofs.YtcelfhphmlhonaaW.PrintMore
attribute [local go_sem] max2_int min2_int max_two min_two max_three min_three max_four min_four   -- for this text's walks alone
set_option linter.unusedVariables false
set_option linter.unusedSimpArgs false

--OWNPART
/-! ### impl_LearnTable: function 42 -/
--IMPORT M5
--IMPORT Derived.Shelf.GgClosure.Gives
--IMPORT Derived.Deep.RegionHeld3
open Go.Proofs.Ytcelfhphmlhonaa.M
/-- does a sample agree with an input on a set of variables -/
def impl_LearnTable.agree (m x : Int) (s : S82) : Bool := Go.bits .and .i64 s.f0 m == Go.bits .and .i64 x m
/-- has the first sample that agrees the value 1 -/
def impl_LearnTable.hit (l : List S82) (m x : Int) : Bool := match l.findIdx? (impl_LearnTable.agree m x) with | some i => (l.getD i z82).f1 == 1 | none => false
theorem impl_LearnTable.clo2 (m x : Int) (s : S82) (M X : Nat) (w : World) (hM : M < w.heap.size) (hX : X < w.heap.size) (fm : w.cell? ⟨M, 0, none⟩ = some (.int .i64 m)) (fx : w.cell? ⟨X, 0, none⟩ = some (.int .i64 x)) :
    Calls Try.prog 78 #[.agg #[.int .i64 s.f0, .int .i64 s.f1], .pointer (some ⟨M, 0, none⟩), .pointer (some ⟨X, 0, none⟩)] w fun e w' => e = .returned (.bool (impl_LearnTable.agree m x s)) ∧ Below w.heap.size w w' := by
  have huT := Try.underlying82
  have hB : Below w.heap.size w (w.alloc (.cells #[.int .i64 s.f0, .int .i64 s.f1] 82)) := (Below.refl _ _).alloc (Nat.le_refl _) _
  have fm' : (w.alloc (.cells #[.int .i64 s.f0, .int .i64 s.f1] 82)).cell? ⟨M, 0, none⟩ = some (.int .i64 m) := (hB.cell (p := ⟨M, 0, none⟩) hM).trans fm
  have fx' : (w.alloc (.cells #[.int .i64 s.f0, .int .i64 s.f1] 82)).cell? ⟨X, 0, none⟩ = some (.int .i64 x) := (hB.cell (p := ⟨X, 0, none⟩) hX).trans fx
  have HB := Aside0.mk hB
  clear hB hM hX
  show Calls _ _ _ _ fun e w' => e = .returned (.bool (Go.bits .and .i64 s.f0 m == Go.bits .and .i64 x m)) ∧ _
  generalize s.f0 = s0 at *
  generalize s.f1 = s1 at *
  go_enter Try.func78, Try.ntmps78
  go_wp2_with (fail)
  go_ret
  exact ⟨rfl, by repeat (first | exact HB.out | apply pw_below_drewN)⟩
theorem impl_LearnTable.clo (l : List S82) (m x : Int) (A : Option Addr) (c : Nat) (F M : Nat) (w : World) (hF : F < w.heap.size) (hM : M < w.heap.size)
    (hr : Kd.C k82 w A l.length l) (f0 : w.cell? ⟨F, 0, none⟩ = some (.slice A l.length c)) (fm : w.cell? ⟨M, 0, none⟩ = some (.int .i64 m)) :
    Calls Try.prog 76 #[.int .i64 x, .pointer (some ⟨F, 0, none⟩), .pointer (some ⟨M, 0, none⟩)] w fun e w' => e = .returned (.bool (impl_LearnTable.hit l m x)) ∧ Below w.heap.size w w' := by
  have huT := Try.underlying82
  obtain ⟨W0, hW0⟩ : ∃ W0, W0 = w.alloc (.cells #[.int .i64 x] 3) := ⟨_, rfl⟩
  have hB : Below w.heap.size w W0 := by rw [hW0]; exact (Below.refl _ _).alloc (Nat.le_refl _) _
  have cx : W0.heap[w.heap.size]? = some (.cells #[.int .i64 x] 3 (0, 0)) := by rw [hW0]; exact blk_new w _
  have hC : ∀ W, Below W0.heap.size W0 W → Calls Try.prog 77 #[.slice A l.length c, .func (.func 78) #[] #[.pointer (some ⟨M, 0, none⟩), .pointer (some ⟨w.heap.size, 0, none⟩)]] W fun e w' => e = .returned (.int .i64 (impl_Sample_77.idx (impl_LearnTable.agree m x) l)) ∧ Below W.heap.size W w' := by
    intro W hb
    refine impl_Sample_77.any (impl_LearnTable.agree m x) 78 #[.pointer (some ⟨M, 0, none⟩), .pointer (some ⟨w.heap.size, 0, none⟩)] (enters_of Try.func78 (by kernel_rfl) rfl) A c l W (Kd.C_below (Kd.C_below hr hB) hb) hr.2.1 (fun s W' hb' => ?_)
    have hM0 : M < W0.heap.size := Nat.lt_of_lt_of_le hM hB.size
    have hM1 : M < W.heap.size := Nat.lt_of_lt_of_le hM0 hb.size
    have hX1 : w.heap.size < W.heap.size := Nat.lt_of_lt_of_le (blk_lt cx) hb.size
    exact impl_LearnTable.clo2 m x s M w.heap.size W' (Nat.lt_of_lt_of_le hM1 hb'.size) (Nat.lt_of_lt_of_le hX1 hb'.size) ((hb'.cell (p := ⟨M, 0, none⟩) hM1).trans ((hb.cell (p := ⟨M, 0, none⟩) hM0).trans ((hB.cell (p := ⟨M, 0, none⟩) hM).trans fm))) (blk_cell (blk_below (blk_below cx hb) hb') 0)
  have hr0 : ∀ W, Below W0.heap.size W0 W → Kd.C k82 W A l.length l := fun W hb => Kd.C_below (Kd.C_below hr hB) hb
  have g0 := (hB.cell (p := ⟨F, 0, none⟩) hF).trans f0
  have gF : ∀ W, Below W0.heap.size W0 W → W.cell? ⟨F, 0, none⟩ = some (.slice A l.length c) := fun W hb => (hb.cell (p := ⟨F, 0, none⟩) (Nat.lt_of_lt_of_le hF hB.size)).trans g0
  have hb0 := Below.refl W0.heap.size W0
  rw [hW0] at g0
  have CW := Aside0.mk hW0
  have GF := Aside0.mk gF
  have HC := Aside0.mk hC
  have HR := Aside0.mk hr0
  have HB := Aside0.mk hB
  clear hC hr0 hB hF hM fm f0 hW0 cx gF hb0
  unfold impl_LearnTable.hit
  unfold impl_Sample_77.idx at HC
  have hfi : ∀ i, l.findIdx? (impl_LearnTable.agree m x) = some i → i < l.length := fun i h => by
    rw [List.findIdx?_eq_some_iff_getElem] at h; exact h.1
  have hlm := hr.2.1
  clear hr
  cases hq : l.findIdx? (impl_LearnTable.agree m x) with
  | none =>
    rw [hq] at HC
    clear hfi hq
    go_enter Try.func76, Try.ntmps76
    go_wp2_with (first | (go_at_call 77; rw [← CW.out]; (with_reducible refine (HC.out _ (Below.refl _ _)).mono ?_); rintro e w1 ⟨rfl, hb1⟩))
    go_ret
    exact ⟨rfl, HB.out.trans (hb1.mono HB.out.size)⟩
  | some i =>
    rw [hq] at HC
    have hi := hfi i hq
    clear hfi hq
    have hil : (i : Int) < (l.length : Int) := by omega
    obtain ⟨ad, ea, _⟩ := at_T82 (HR.out _ (Below.refl _ _)) (i : Int) (by omega) hil
    subst ea
    have RC : Aside0 (∀ W, Below W0.heap.size W0 W → W.cell? (ad.add ((i : Int).toNat * 2)) = some (.int .i64 (l.getD i z82).f0) ∧ W.cell? ⟨(ad.add ((i : Int).toNat * 2)).block, (ad.add ((i : Int).toNat * 2)).off + 1, none⟩ = some (.int .i64 (l.getD i z82).f1)) := ⟨fun W hb => by
      obtain ⟨ad', ea', c0, c1⟩ := at_T82 (HR.out W hb) (i : Int) (by omega) hil
      cases ea'
      have hy : rd_T82 l (i : Int) = l.getD i z82 := by simp [rd_T82]
      rw [hy] at c0 c1
      exact ⟨c0, c1⟩⟩
    clear HR
    simp only []
    generalize (l.getD i z82).f0 = s0 at *
    generalize (l.getD i z82).f1 = s1 at *
    simp only [Int.toNat_natCast] at RC
    go_enter Try.func76, Try.ntmps76
    go_wp2_with (first | (go_at_call 77; rw [← CW.out]; (with_reducible refine (HC.out _ (Below.refl _ _)).mono ?_); rintro e w1 ⟨rfl, hb1⟩; have g1 := GF.out _ hb1; have c0 := (RC.out _ hb1).1; have c1 := (RC.out _ hb1).2))
    go_ret
    exact ⟨rfl, HB.out.trans (hb1.mono HB.out.size)⟩

set_option maxHeartbeats 1600000 in
theorem impl_LearnTable.aux (N M : Nat) (hN : N ≤ 5) (hM : M ≤ 32) (e10 : wrap64 ((2 : Int) ^ N) = (M : Int)) (g : Nat → Bool) (F G : Nat) (w : World)
    (hc : ∀ (x : Nat) (W : World), x < M → Below w.heap.size w W → Calls Try.prog 76 #[.int .i64 (x : Int), .pointer (some ⟨F, 0, none⟩), .pointer (some ⟨G, 0, none⟩)] W fun e W' => e = .returned (.bool (g x)) ∧ Below W.heap.size W W') :
    Calls Try.prog 75 #[.int .i64 (N : Int), .func (.func 76) #[] #[.pointer (some ⟨F, 0, none⟩), .pointer (some ⟨G, 0, none⟩)]] w fun e w' => e = .returned (.agg #[.int .i64 (N : Int), .int .i64 ((prefW g M : Nat) : Int)]) ∧ Below w.heap.size w w' := by
  have huT := Try.underlying45
  have hH := Aside0.mk hc
  clear hc
  have hS := Aside0.mk (impl_makeTable.I.start w N g)
  go_enter Try.func75, Try.ntmps75
  go_wp2
  rw [e10]
  clear e10
  go_loopw [11] (fun v11 wr => ∃ x : Nat, x ≤ M ∧ v11 = .int .i64 (x : Int) ∧ Aside0 (impl_makeTable.I w N g x wr)) (fun v11 _ => M - (intOf v11).toNat)
  case atStart => exact ⟨0, Nat.zero_le _, rfl, hS⟩
  case round =>
    obtain ⟨x, hx, rfl, HI⟩ := hrel
    clear hS
    have c0 : wr.cell? ⟨w.heap.size, 0, none⟩ = some (.int .i64 0) := blk_cell HI.out.1 0
    have c1 : wr.cell? ⟨w.heap.size, 1, none⟩ = some (.int .i64 0) := blk_cell HI.out.1 1
    have z0 := blk_frozen HI.out.1 0
    have z1 := blk_frozen HI.out.1 1
    have d0 : wr.cell? ⟨w.heap.size + 1, 0, none⟩ = some (.int .i64 (N : Int)) := blk_cell HI.out.2.1 0
    have d1 : wr.cell? ⟨w.heap.size + 1, 1, none⟩ = some (.int .i64 ((prefW g x : Nat) : Int)) := blk_cell HI.out.2.1 1
    by_cases hlt : x < M
    · have hC := Aside0.mk (hH.out x wr hlt HI.out.2.2)
      cases hg : g x with
      | false =>
        rw [hg] at hC
        have HG := Aside0.mk hg
        clear hg
        go_wp2_with (first | (go_at_call 76; (with_reducible refine hC.out.mono ?_); rintro e w1 ⟨rfl, hb⟩))
        go_roundw
        case rel => exact ⟨x + 1, by omega, by go_num, ⟨(HI.out.call hb).skip HG.out⟩⟩
        case measure => simp [intOf]; omega
      | true =>
        rw [hg] at hC
        have HG := Aside0.mk hg
        clear hg
        go_wp2_with (first | (go_at_call 76; (with_reducible refine hC.out.mono ?_); rintro e w1 ⟨rfl, hb⟩))
        have HI1 := Aside0.mk (HI.out.call hb)
        have d1' : w1.cell? ⟨w.heap.size + 1, 1, none⟩ = some (.int .i64 ((prefW g x : Nat) : Int)) := blk_cell HI1.out.2.1 1
        have z1' : w1.frozen? ⟨w.heap.size + 1, 1, none⟩ = false := blk_frozen HI1.out.2.1 1
        clear c0 c1 z0 z1 d0 d1
        go_region
        all_goals
          go_wp2
          go_roundw
          case rel =>
            refine ⟨x + 1, by omega, by go_num, ?_⟩
            · exact ⟨(HI1.out.set HG.out (by omega) (by rw [show shl .i64 1 (x : Int) = wrap64 (2 ^ x) from by unfold shl; rw [min_bits (by omega), Int.one_mul, i64_w]])).drew⟩
          case measure => simp [intOf]; omega
    · obtain rfl : x = M := by omega
      go_wp2
      exact bodyPost_ret (v := .agg #[.int .i64 (N : Int), .int .i64 ((prefW g x : Nat) : Int)]) (by simp [results, Try.results75, go_sem, c0, c1, d0, d1]) rfl ⟨rfl, (HI.out.2.2.setCell (p := ⟨w.heap.size, 0, none⟩) (Nat.le_refl _) _).setCell (p := ⟨w.heap.size, 1, none⟩) (Nat.le_refl _) _⟩

/-- the word that is learned -/
def impl_LearnTable.word (l : List S82) (m : Int) (n : Nat) : Nat := prefW (fun x => impl_LearnTable.hit l m (x : Int)) (2 ^ n)
def impl_LearnTable.f (a0 : Int) (l1 : List (S82)) (a2 : Int) : Option (Int × Int × Bool) :=
  (impl_IsSampleList.f a0 l1).bind fun q => if q = true then (if inR a0.toNat a2 = true then some (a0, ((impl_LearnTable.word l1 a2 a0.toNat : Nat) : Int), true) else some (0, 0, false)) else some (0, 0, false)
theorem impl_LearnTable.mk {n : Nat} {l : List S82} (m : Int) (hn : n ≤ 5) (F M : Nat) (A : Option Addr) (c : Nat) (w : World) (hF : F < w.heap.size) (hM : M < w.heap.size)
    (hr : Kd.C k82 w A l.length l) (f0 : w.cell? ⟨F, 0, none⟩ = some (.slice A l.length c)) (fm : w.cell? ⟨M, 0, none⟩ = some (.int .i64 m)) :
    Calls Try.prog 75 #[.int .i64 (n : Int), .func (.func 76) #[] #[.pointer (some ⟨F, 0, none⟩), .pointer (some ⟨M, 0, none⟩)]] w fun e w' => e = .returned (.agg #[.int .i64 (n : Int), .int .i64 ((impl_LearnTable.word l m n : Nat) : Int)]) ∧ Below w.heap.size w w' := by
  have h16 : 2 ^ n ≤ 32 := pow_le_5 hn
  have e10 : wrap64 ((2 : Int) ^ n) = ((2 ^ n : Nat) : Int) := by
    have : ((2 : Int) ^ n) = ((2 ^ n : Nat) : Int) := by push_cast; rfl
    rw [this]
    obtain ⟨P, hP⟩ : ∃ P, P = 2 ^ n := ⟨_, rfl⟩
    rw [← hP] at h16 ⊢
    exact w64 (by omega) (by omega)
  refine impl_LearnTable.aux n (2 ^ n) (by omega) (by omega) e10 (fun x => impl_LearnTable.hit l m (x : Int)) F M w (fun x W hx hb' => ?_)
  exact impl_LearnTable.clo l m x A c F M W (Nat.lt_of_lt_of_le hF hb'.size) (Nat.lt_of_lt_of_le hM hb'.size) (Kd.C_below hr hb') ((hb'.cell (p := ⟨F, 0, none⟩) hF).trans f0) ((hb'.cell (p := ⟨M, 0, none⟩) hM).trans fm)
set_option maxHeartbeats 1600000 in
set_option maxRecDepth 100000 in
theorem impl_LearnTable.good (n : Nat) (m : Int) (A1 : Option Addr) (c1 : Nat) (l1 : List S82) (w : World) (hr1 : Kd.C k82 w A1 l1.length l1) (hc1 : l1.length ≤ c1) (hq : impl_IsSampleList.f (n : Int) l1 = some true) (hn : n ≤ 5)
    (q : Bool) (hi : impl_isInput.f (n : Int) m = some q) :
    Calls Try.prog 42 #[.int .i64 (n : Int), .slice A1 l1.length c1, .int .i64 m] w fun e w' => e = .returned (if q = true then .tuple #[.agg #[.int .i64 (n : Int), .int .i64 ((impl_LearnTable.word l1 m n : Nat) : Int)], .bool true] else .tuple #[.agg #[.int .i64 0, .int .i64 0], .bool false]) ∧ Below w.heap.size w w' := by
  have huT := Try.underlying45
  obtain ⟨W0, hW0⟩ : ∃ W0, W0 = (((w.alloc (.cells #[.slice A1 l1.length c1] 47)).alloc (.cells #[.int .i64 m] 3)).alloc (.cells #[.int .i64 0, .int .i64 0] 45)) := ⟨_, rfl⟩
  have HB : Below w.heap.size w W0 := by rw [hW0]; exact (((Below.refl _ _).alloc (Nat.le_refl _) _).alloc (by simp) _).alloc (by simp; omega) _
  have c0 : W0.heap[w.heap.size]? = some (.cells #[.slice A1 l1.length c1] 47 (0, 0)) := by rw [hW0]; exact blk_alloc (blk_alloc (blk_new w _) _) _
  have c1' : W0.heap[w.heap.size + 1]? = some (.cells #[.int .i64 m] 3 (0, 0)) := by
    rw [hW0]; have := blk_new (w.alloc (.cells #[.slice A1 l1.length c1] 47)) (.cells #[.int .i64 m] 3)
    exact blk_alloc (by simpa using this) _
  have c3 : W0.heap[w.heap.size + 2]? = some (.cells #[.int .i64 0, .int .i64 0] 45 (0, 0)) := by
    rw [hW0]; have := blk_new ((w.alloc (.cells #[.slice A1 l1.length c1] 47)).alloc (.cells #[.int .i64 m] 3)) (.cells #[.int .i64 0, .int .i64 0] 45)
    simpa using this
  have CW := Aside0.mk hW0
  have A1' := Aside0.mk hi
  have C2 : Aside0 (∀ W, Below W0.heap.size W0 W → Calls Try.prog 72 #[.int .i64 (n : Int), .slice A1 l1.length c1] W fun e W' => e = .returned (.bool true) ∧ Below W.heap.size W W') := ⟨fun W hb => impl_IsSampleList.calls (n : Int) A1 c1 l1 true W (Kd.C_below (Kd.C_below hr1 HB) hb) hc1 hq⟩
  have C3 : Aside0 (∀ W, Below W0.heap.size W0 W → Calls Try.prog 75 #[.int .i64 (n : Int), .func (.func 76) #[] #[.pointer (some ⟨w.heap.size, 0, none⟩), .pointer (some ⟨w.heap.size + 1, 0, none⟩)]] W fun e w' => e = .returned (.agg #[.int .i64 (n : Int), .int .i64 ((impl_LearnTable.word l1 m n : Nat) : Int)]) ∧ Below W.heap.size W w') := ⟨fun W hb =>
    impl_LearnTable.mk m hn w.heap.size (w.heap.size + 1) A1 c1 W (Nat.lt_of_lt_of_le (blk_lt c0) hb.size) (Nat.lt_of_lt_of_le (blk_lt c1') hb.size) (Kd.C_below (Kd.C_below hr1 HB) hb)
      (blk_cell (blk_below c0 hb) 0) (blk_cell (blk_below c1' hb) 0)⟩
  have HBB := Aside0.mk HB
  have D0 := Aside0.mk c0
  have D1 := Aside0.mk c1'
  have D3 := Aside0.mk c3
  clear hW0 HB c0 c1' c3 hr1 hc1 hq hi hn
  generalize ((impl_LearnTable.word l1 m n : Nat) : Int) = R at *
  cases q with
  | true =>
    go_enter Try.func42, Try.ntmps42
    go_wp2_with (first
      | (go_at_call 72; rw [← CW.out]; (with_reducible refine (C2.out _ (Below.refl _ _)).mono ?_); rintro e w1 ⟨rfl, hb1⟩; have B1 := Aside0.mk hb1; clear hb1; have p0 : w1.cell? ⟨w.heap.size, 0, none⟩ = some (.slice A1 l1.length c1) := blk_cell (blk_below D0.out B1.out) 0; have p1 : w1.cell? ⟨w.heap.size + 1, 0, none⟩ = some (.int .i64 m) := blk_cell (blk_below D1.out B1.out) 0)
      | (go_at_call 61; (with_reducible refine (impl_isInput.calls (n : Int) m true _ A1'.out).mono ?_); rintro e w2 ⟨rfl, ⟨nd, hnd⟩⟩; have B2 : Aside0 (Below W0.heap.size W0 w2) := ⟨by rw [hnd]; exact pw_below_drewN B1.out nd⟩; clear hnd; have q0 : w2.cell? ⟨w.heap.size, 0, none⟩ = some (.slice A1 l1.length c1) := blk_cell (blk_below D0.out B2.out) 0)
      | (go_at_call 75; (with_reducible refine (C3.out w2 B2.out).mono ?_); rintro e w3 ⟨rfl, hb3⟩; have B3 := Aside0.mk (B2.out.trans (hb3.mono B2.out.size)); clear hb3; have RB := Aside0.mk (blk_below D3.out B3.out); have r0 : w3.cell? ⟨w.heap.size + 1 + 1, 0, none⟩ = some (.int .i64 0) := blk_cell RB.out 0; have r1 : w3.cell? ⟨w.heap.size + 1 + 1, 1, none⟩ = some (.int .i64 0) := blk_cell RB.out 1; have z0 : w3.frozen? ⟨w.heap.size + 1 + 1, 0, none⟩ = false := blk_frozen RB.out 0; have z1 : w3.frozen? ⟨w.heap.size + 1 + 1, 1, none⟩ = false := blk_frozen RB.out 1))
    have BE := HBB.out.trans (B3.out.mono HBB.out.size)
    exact bodyPost_ret (v := .tuple #[.agg #[.int .i64 (n : Int), .int .i64 R], .bool true]) (by simp [results, Try.results42, go_sem, r0, r1]) rfl ⟨rfl, (BE.setCell (p := ⟨w.heap.size + 1 + 1, 0, none⟩) (by show w.heap.size ≤ w.heap.size + 1 + 1; omega) _).setCell (p := ⟨w.heap.size + 1 + 1, 1, none⟩) (by show w.heap.size ≤ w.heap.size + 1 + 1; omega) _⟩
  | false =>
    go_enter Try.func42, Try.ntmps42
    go_wp2_with (first
      | (go_at_call 72; rw [← CW.out]; (with_reducible refine (C2.out _ (Below.refl _ _)).mono ?_); rintro e w1 ⟨rfl, hb1⟩; have B1 := Aside0.mk hb1; clear hb1; have p0 : w1.cell? ⟨w.heap.size, 0, none⟩ = some (.slice A1 l1.length c1) := blk_cell (blk_below D0.out B1.out) 0; have p1 : w1.cell? ⟨w.heap.size + 1, 0, none⟩ = some (.int .i64 m) := blk_cell (blk_below D1.out B1.out) 0)
      | (go_at_call 61; (with_reducible refine (impl_isInput.calls (n : Int) m false _ A1'.out).mono ?_); rintro e w3 ⟨rfl, ⟨nd, hnd⟩⟩; have B3 : Aside0 (Below W0.heap.size W0 w3) := ⟨by rw [hnd]; exact pw_below_drewN B1.out nd⟩; clear hnd; have RB := Aside0.mk (blk_below D3.out B3.out); have r0 : w3.cell? ⟨w.heap.size + 1 + 1, 0, none⟩ = some (.int .i64 0) := blk_cell RB.out 0; have r1 : w3.cell? ⟨w.heap.size + 1 + 1, 1, none⟩ = some (.int .i64 0) := blk_cell RB.out 1; have z0 : w3.frozen? ⟨w.heap.size + 1 + 1, 0, none⟩ = false := blk_frozen RB.out 0; have z1 : w3.frozen? ⟨w.heap.size + 1 + 1, 1, none⟩ = false := blk_frozen RB.out 1))
    have BE := HBB.out.trans (B3.out.mono HBB.out.size)
    exact bodyPost_ret (v := .tuple #[.agg #[.int .i64 0, .int .i64 0], .bool false]) (by simp [results, Try.results42, go_sem, r0, r1]) rfl ⟨rfl, (BE.setCell (p := ⟨w.heap.size + 1 + 1, 0, none⟩) (by show w.heap.size ≤ w.heap.size + 1 + 1; omega) _).setCell (p := ⟨w.heap.size + 1 + 1, 1, none⟩) (by show w.heap.size ≤ w.heap.size + 1 + 1; omega) _⟩
set_option maxHeartbeats 1600000 in
set_option maxRecDepth 100000 in
theorem impl_LearnTable.bad (a m : Int) (A1 : Option Addr) (c1 : Nat) (l1 : List S82) (w : World) (hr1 : Kd.C k82 w A1 l1.length l1) (hc1 : l1.length ≤ c1) (hq : impl_IsSampleList.f a l1 = some false) :
    Calls Try.prog 42 #[.int .i64 a, .slice A1 l1.length c1, .int .i64 m] w fun e w' => e = .returned (.tuple #[.agg #[.int .i64 0, .int .i64 0], .bool false]) ∧ Below w.heap.size w w' := by
  have huT := Try.underlying45
  obtain ⟨W0, hW0⟩ : ∃ W0, W0 = (((w.alloc (.cells #[.slice A1 l1.length c1] 47)).alloc (.cells #[.int .i64 m] 3)).alloc (.cells #[.int .i64 0, .int .i64 0] 45)) := ⟨_, rfl⟩
  have HB : Below w.heap.size w W0 := by rw [hW0]; exact (((Below.refl _ _).alloc (Nat.le_refl _) _).alloc (by simp) _).alloc (by simp; omega) _
  have c3 : W0.heap[w.heap.size + 2]? = some (.cells #[.int .i64 0, .int .i64 0] 45 (0, 0)) := by
    rw [hW0]; have := blk_new ((w.alloc (.cells #[.slice A1 l1.length c1] 47)).alloc (.cells #[.int .i64 m] 3)) (.cells #[.int .i64 0, .int .i64 0] 45)
    simpa using this
  have CW := Aside0.mk hW0
  have C2 : Aside0 (∀ W, Below W0.heap.size W0 W → Calls Try.prog 72 #[.int .i64 a, .slice A1 l1.length c1] W fun e W' => e = .returned (.bool false) ∧ Below W.heap.size W W') := ⟨fun W hb => impl_IsSampleList.calls a A1 c1 l1 false W (Kd.C_below (Kd.C_below hr1 HB) hb) hc1 hq⟩
  have HBB := Aside0.mk HB
  have D3 := Aside0.mk c3
  clear hW0 HB c3 hr1 hc1 hq
  go_enter Try.func42, Try.ntmps42
  go_wp2_with (first
    | (go_at_call 72; rw [← CW.out]; (with_reducible refine (C2.out _ (Below.refl _ _)).mono ?_); rintro e w1 ⟨rfl, hb1⟩; have B1 := Aside0.mk hb1; clear hb1; have RB := Aside0.mk (blk_below D3.out B1.out); have r0 : w1.cell? ⟨w.heap.size + 1 + 1, 0, none⟩ = some (.int .i64 0) := blk_cell RB.out 0; have r1 : w1.cell? ⟨w.heap.size + 1 + 1, 1, none⟩ = some (.int .i64 0) := blk_cell RB.out 1; have z0 : w1.frozen? ⟨w.heap.size + 1 + 1, 0, none⟩ = false := blk_frozen RB.out 0; have z1 : w1.frozen? ⟨w.heap.size + 1 + 1, 1, none⟩ = false := blk_frozen RB.out 1))
  have BE := HBB.out.trans (B1.out.mono HBB.out.size)
  exact bodyPost_ret (v := .tuple #[.agg #[.int .i64 0, .int .i64 0], .bool false]) (by simp [results, Try.results42, go_sem, r0, r1]) rfl ⟨rfl, (BE.setCell (p := ⟨w.heap.size + 1 + 1, 0, none⟩) (by show w.heap.size ≤ w.heap.size + 1 + 1; omega) _).setCell (p := ⟨w.heap.size + 1 + 1, 1, none⟩) (by show w.heap.size ≤ w.heap.size + 1 + 1; omega) _⟩
theorem impl_LearnTable.calls (a0 : Int) (A1 : Option Addr) (c1 : Nat) (l1 : List (S82)) (a2 : Int) (r1 : Int) (r2 : Int) (r3 : Bool) (w : World) (hr1 : Kd.C k82 w A1 l1.length l1) (hc1 : l1.length ≤ c1) (h : impl_LearnTable.f a0 l1 a2 = some (r1, r2, r3)) :
    Calls Try.prog 42 #[.int .i64 a0, .slice A1 l1.length c1, .int .i64 a2] w fun e w' => e = .returned (.tuple #[.agg #[.int .i64 r1, .int .i64 r2], .bool r3]) ∧ Below w.heap.size w w' := by
  unfold impl_LearnTable.f at h
  obtain ⟨q, hq, h⟩ := Option.bind_eq_some_iff.mp h
  cases q with
  | false =>
    rw [if_neg (by decide)] at h
    simp only [Option.some.injEq, Prod.mk.injEq] at h
    obtain ⟨rfl, rfl, rfl⟩ := h
    exact impl_LearnTable.bad a0 a2 A1 c1 l1 w hr1 hc1 hq
  | true =>
    rw [if_pos rfl] at h
    have ha : 0 ≤ a0 ∧ a0 ≤ 5 := by
      have h' := Option.some.inj hq
      rw [Bool.and_eq_true, Bool.and_eq_true] at h'
      exact of_decide_eq_true h'.1.1
    obtain ⟨n, rfl⟩ := nat_of ha.1
    rw [Int.toNat_natCast] at h
    have hi : impl_isInput.f (n : Int) a2 = some (inR n a2) := by
      unfold impl_isInput.f inR
      by_cases hx : a2 ≥ 0
      · rw [if_pos hx, if_pos (Int.natCast_nonneg n), shl_one (by omega)]
        congr 1
        apply decide_eq_decide.mpr
        omega
      · rw [if_neg hx]
        congr 1; symm
        apply decide_eq_false; omega
    have hg := impl_LearnTable.good n a2 A1 c1 l1 w hr1 hc1 hq (by omega) (inR n a2) hi
    cases hb : inR n a2 with
    | true =>
      rw [hb] at h hg
      rw [if_pos rfl] at h
      simp only [Option.some.injEq, Prod.mk.injEq] at h
      obtain ⟨rfl, rfl, rfl⟩ := h
      exact hg
    | false =>
      rw [hb] at h hg
      rw [if_neg (by decide)] at h
      simp only [Option.some.injEq, Prod.mk.injEq] at h
      obtain ⟨rfl, rfl, rfl⟩ := h
      exact hg


end Go.Proofs.Ytcelfhphmlhonaa.Print
