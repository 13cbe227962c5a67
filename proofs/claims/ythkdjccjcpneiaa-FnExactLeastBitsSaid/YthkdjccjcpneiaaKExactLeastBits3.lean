/- Functions of the given program as plain Lean functions, with proofs that their calls compute them, or lemmas on these. Laid by a program of this repo for the seat Ythkdjccjcpneiaa; Lean checks it. -/
import Derived.Test.YthkdjccjcpneiaaKExactLeastBits0
import Derived.Test.YthkdjccjcpneiaaKExactLeastBits2
import Derived.Test.YthkdjccjcpneiaaM20
import Derived.Test.YthkdjccjcpneiaaM19
import Derived.Shelf.GgClosure.Gives
import Derived.BigQuiet
namespace Go.Proofs.Ythkdjccjcpneiaa.Print
open Go.RowKit Go.Proofs.YthkdjccjcpneiaaW.PrintWords Go.Proofs.YthkdjccjcpneiaaW.PrintLast Go.Proofs.YthkdjccjcpneiaaW.PrintMore
attribute [local go_sem] max2_int min2_int max_two min_two max_three min_three max_four min_four   -- for this text's walks alone
set_option linter.unusedVariables false
set_option linter.unusedSimpArgs false

--OWNPART
/-! ### impl_talk_value: function 36 -/
--IMPORT M20
--IMPORT M19
--IMPORT Derived.Shelf.GgClosure.Gives
--IMPORT Derived.BigQuiet
open Go.Proofs.Ythkdjccjcpneiaa.M
theorem impl_talk_value.at_bit {n v y : Nat} (hv : v < 2 ^ 63) (hy : y ≤ 63) : impl_Table_at.f (n : Int) (v : Int) (y : Int) = some (((v.testBit y).toNat : Nat) : Int) := by
  unfold impl_Table_at.f
  rw [if_pos (Int.natCast_nonneg y), bit_nat hv (by omega)]
theorem impl_talk_value.size_some (n v : Nat) (hn : n ≤ 5) : impl_Table_size.f (n : Int) (v : Int) = some ((2 ^ n : Nat) : Int) := by
  unfold impl_Table_size.f
  rw [if_pos (Int.natCast_nonneg n), shl_one (by omega)]
/-- the inputs of two sides below i -/
def impl_talk_value.pre (k a b i : Nat) : List Nat := (List.range i).filter fun x => a.testBit (x % 2 ^ k) && b.testBit (x / 2 ^ k)
theorem impl_talk_value.pre_hit {k a b i : Nat} (h : (a.testBit (i % 2 ^ k) && b.testBit (i / 2 ^ k)) = true) : impl_talk_value.pre k a b (i + 1) = impl_talk_value.pre k a b i ++ [i] := by
  unfold impl_talk_value.pre; rw [List.range_succ, List.filter_append]; simp [h]
theorem impl_talk_value.pre_miss {k a b i : Nat} (h : (a.testBit (i % 2 ^ k) && b.testBit (i / 2 ^ k)) = false) : impl_talk_value.pre k a b (i + 1) = impl_talk_value.pre k a b i := by
  unfold impl_talk_value.pre; rw [List.range_succ, List.filter_append]; simp [h]
/-- what is known behind some inputs -/
def impl_talk_value.K (v : Nat) (l : List Nat) (y : Int) : Prop := (l = [] ∧ y = -1) ∨ ∃ c : Bool, y = ((c.toNat : Nat) : Int) ∧ l ≠ [] ∧ ∀ x ∈ l, v.testBit x = c
theorem impl_talk_value.con_of {v : Nat} {l : List Nat} {y : Int} (h : impl_talk_value.K v l y) (hne : l ≠ []) : decide (y < 0) = !(allL v true l || allL v false l) := by
  rcases h with ⟨h1, _⟩ | ⟨c, rfl, _, h2⟩
  · exact absurd h1 hne
  · have e : allL v c l = true := by unfold allL; rw [List.all_eq_true]; exact fun x hx => by rw [h2 x hx]; simp
    have e2 : (allL v true l || allL v false l) = true := by cases c <;> simp [e]
    rw [e2]
    cases c <;> decide
theorem impl_talk_value.pre_mono {k a b i N x : Nat} (h : i ≤ N) (hx : x ∈ impl_talk_value.pre k a b i) : x ∈ impl_talk_value.pre k a b N := by
  unfold impl_talk_value.pre at *
  obtain ⟨h1, h2⟩ := List.mem_filter.mp hx
  exact List.mem_filter.mpr ⟨List.mem_range.mpr (by have := List.mem_range.mp h1; omega), h2⟩
theorem impl_talk_value.con_not {k v a b i N : Nat} {c : Bool} (hi : i < N) (hP : impl_talk_value.pre k a b (i + 1) = impl_talk_value.pre k a b i ++ [i]) (hne : impl_talk_value.pre k a b i ≠ []) (hall : ∀ x ∈ impl_talk_value.pre k a b i, v.testBit x = c) (hz : v.testBit i = !c) :
    (allL v true (impl_talk_value.pre k a b N) || allL v false (impl_talk_value.pre k a b N)) = false := by
  have m1 : i ∈ impl_talk_value.pre k a b N := impl_talk_value.pre_mono (i := i + 1) (by omega) (by rw [hP]; simp)
  obtain ⟨x, hx⟩ : ∃ x, x ∈ impl_talk_value.pre k a b i := List.exists_mem_of_ne_nil _ hne
  have m2 := impl_talk_value.pre_mono (N := N) (by omega) hx
  have h2 := hall x hx
  have key : ∀ d : Bool, allL v d (impl_talk_value.pre k a b N) = false := fun d => by
    cases h : allL v d (impl_talk_value.pre k a b N) with
    | false => rfl
    | true =>
      unfold allL at h
      have q1 := List.all_eq_true.mp h i m1
      have q2 := List.all_eq_true.mp h x m2
      rw [hz] at q1; rw [h2] at q2
      revert q1 q2; cases c <;> cases d <;> simp
  rw [key, key]; rfl
set_option maxHeartbeats 4000000 in
set_option maxRecDepth 100000 in
theorem impl_talk_value.call (n v k a b T N : Nat) (mv : Value) (hs : Sp n k) (hN : N = 2 ^ n) (hv : v < 2 ^ 2 ^ n) (ha : a < 16) (hb : b < 16) (w : World) (hT : w.heap[T]? = some (.cells #[.int .i64 (n : Int), .int .i64 (v : Int), .int .i64 (k : Int), mv] 63 (0, 0))) (hne : pxL n k a b ≠ []) :
    Calls Try.prog 36 #[.pointer (some ⟨T, 0, none⟩), .agg #[.int .i64 (a : Int), .int .i64 (b : Int)]] w fun e w' => ∃ r : Int, e = .returned (.int .i64 r) ∧ decide (r < 0) = !conB n k v a b ∧ Below w.heap.size w w' := by
  have huT := Try.underlying25
  have huA := Try.underlying63
  have huS := Try.underlying43
  have hn4 := hs.hn
  have hk2 := hs.hk
  have HSZ := Aside0.mk (impl_talk_value.size_some n v (by omega))
  rw [← hN] at HSZ
  have hN16 : N ≤ 16 := by rw [hN]; exact pow16 hs.hn
  have hv63 : v < 2 ^ 63 := Nat.lt_trans hv (full_p63 (by omega))
  have HAT := Aside0.mk (fun y (hy : y ≤ 63) => impl_talk_value.at_bit (n := n) (v := v) (y := y) hv63 hy)
  obtain ⟨W0, hW0⟩ : ∃ W0, W0 = w.alloc (.cells #[.int .i64 (a : Int), .int .i64 (b : Int)] 43) := ⟨_, rfl⟩
  have HB : Below w.heap.size w W0 := by rw [hW0]; exact (Below.refl _ _).alloc (Nat.le_refl _) _
  have c0 : W0.heap[w.heap.size]? = some (.cells #[.int .i64 (a : Int), .int .i64 (b : Int)] 43 (0, 0)) := by rw [hW0]; exact blk_new w _
  have cT := blk_below hT HB
  have t0 := blk_cell cT 0
  have t1 := blk_cell cT 1
  have CW := Aside0.mk hW0
  have C0 := Aside0.mk c0
  have CT := Aside0.mk cT
  have HBB := Aside0.mk HB
  have HCON := Aside0.mk (hs.conf v ha hb)
  have HNE : Aside0 (impl_talk_value.pre k a b N ≠ []) := ⟨fun e => by
    have h1 := (hs.at ha hb).1
    cases hp : pxL n k a b with
    | nil => exact hne hp
    | cons x t =>
      have := (h1 x).mpr (by rw [hp]; exact List.mem_cons_self ..)
      unfold fxL at this
      rw [← hN] at this
      unfold impl_talk_value.pre at e
      rw [e] at this; cases this⟩
  have HFX : Aside0 (fxL n k a b = impl_talk_value.pre k a b N) := ⟨by rw [hN]; rfl⟩
  rw [hW0] at t0 t1
  clear hs hN hv hW0 c0 HB hv63 hT cT hne
  go_enter Try.func36, Try.ntmps36
  go_wp2_with (first | (go_at_call 48; rw [← CW.out]; (with_reducible refine (impl_Table_size.calls _ _ _ _ HSZ.out).mono ?_); rintro e w2 ⟨rfl, hb⟩; have B2 := Aside0.mk hb; clear hb))
  go_loopg [12, 5] N (fun gg v12 v5 wr => ∃ (i : Nat) (y : Int), i ≤ N ∧ N - i ≤ gg ∧ v12 = .int .i64 (i : Int) ∧ v5 = .int .i64 y ∧ Aside0 (impl_talk_value.K v (impl_talk_value.pre k a b i) y) ∧ Aside0 (Below w.heap.size w wr) ∧ Aside0 (wr.heap[w.heap.size]? = some (.cells #[.int .i64 (a : Int), .int .i64 (b : Int)] 43 (0, 0))) ∧ Aside0 (wr.heap[T]? = some (.cells #[.int .i64 (n : Int), .int .i64 (v : Int), .int .i64 (k : Int), mv] 63 (0, 0))))
  case atStart => exact ⟨0, -1, Nat.zero_le _, by omega, rfl, rfl, ⟨.inl ⟨rfl, rfl⟩⟩, ⟨HBB.out.trans (B2.out.mono HBB.out.size)⟩, ⟨blk_below C0.out B2.out⟩, ⟨blk_below CT.out B2.out⟩⟩
  case round =>
    clear B2 t0 t1
    obtain ⟨i, y, hi, hg, rfl, rfl, HK, HR, HS, HT⟩ := hrel
    by_cases hlt : i < N
    · have hltz : (i : Int) < (N : Int) := by omega
      have c0 := blk_cell HS.out 0
      have c1 := blk_cell HS.out 1
      have t0 := blk_cell HT.out 0
      have t1 := blk_cell HT.out 1
      have t2 := blk_cell HT.out 2
      have hp4 : 2 ^ k ≤ 4 := Nat.pow_le_pow_right (n := 2) (by decide) hk2
      have hp0 := Nat.two_pow_pos k
      obtain ⟨r, hr⟩ : ∃ r, r = i % 2 ^ k := ⟨_, rfl⟩
      have er0 : ∀ L : Int, L = ((2 ^ k : Nat) : Int) - 1 → Go.bits .and .i64 (i : Int) L = (r : Int) := fun L hL => by
        rw [hL, show ((2 ^ k : Nat) : Int) - 1 = ((2 ^ k - 1 : Nat) : Int) by omega, and_nat (by omega) (by omega), Nat.and_two_pow_sub_one_eq_mod, hr]
      have hr64 : r ≤ 64 := by have := Nat.mod_lt i hp0; omega
      have es : ∀ (z j : Nat), j ≤ 64 → shr .i64 (z : Int) (j : Int) = (z : Int) / 2 ^ j := fun z j hj => by rw [shr_nat hj]; push_cast; rfl
      have hta := bit_nat (a := a) (n := r) (by omega) hr64
      rw [es a r hr64] at hta
      have HI := Aside0.mk hi
      have PH := Aside0.mk (impl_talk_value.pre_hit (k := k) (a := a) (b := b) (i := i))
      have PM := Aside0.mk (impl_talk_value.pre_miss (k := k) (a := a) (b := b) (i := i))
      rw [← hr] at PH PM
      have hk3 : k = 0 ∨ k = 1 ∨ k = 2 := by omega
      clear hp4 hp0 hr hi
      rcases hk3 with rfl | rfl | rfl
      · have er := er0 0 (by decide)
        have hc64 : i ≤ 64 := by omega
        rw [show i / 2 ^ 0 = i by simp] at PH PM
        have htb := bit_nat (a := b) (n := i) (by omega) hc64
        rw [es b i hc64] at htb
        clear es er0
        cases hA : a.testBit r with
        | false =>
          have HP := Aside0.mk (PM.out (by rw [hA]; rfl))
          rw [hA] at hta
          clear hA htb PH PM
          go_wp2
          go_quiet (fail)
          go_wp2
          go_roundg (N - (i + 1))
          case measure => omega
          case rel => exact ⟨i + 1, y, by omega, by omega, by go_num, rfl, ⟨by rw [HP.out]; exact HK.out⟩, ⟨HR.out.trans ((pw_below_drewN (Below.refl _ _) _).mono HR.out.size)⟩, ⟨blk_drewN HS.out _⟩, ⟨blk_drewN HT.out _⟩⟩
        | true =>
          cases hB : b.testBit i with
          | false =>
            have HP := Aside0.mk (PM.out (by rw [hA, hB]; rfl))
            rw [hA] at hta
            rw [hB] at htb
            clear hA hB PH PM
            go_wp2
            go_quiet (fail)
            go_wp2
            go_roundg (N - (i + 1))
            case measure => omega
            case rel => exact ⟨i + 1, y, by omega, by omega, by go_num, rfl, ⟨by rw [HP.out]; exact HK.out⟩, ⟨HR.out.trans ((pw_below_drewN (Below.refl _ _) _).mono HR.out.size)⟩, ⟨blk_drewN HS.out _⟩, ⟨blk_drewN HT.out _⟩⟩
          | true =>
            have HP := Aside0.mk (PH.out (by rw [hA, hB]; rfl))
            rw [hA] at hta
            rw [hB] at htb
            clear hA hB PH PM
            go_wp2
            go_quiet (fail)
            have HA := Aside0.mk (HAT.out i (by omega))
            obtain ⟨z, hz⟩ : ∃ z, v.testBit i = z := ⟨_, rfl⟩
            rw [hz] at HA
            have HZ := Aside0.mk hz
            clear hz
            have HLT := Aside0.mk hlt
            rcases HK.out with ⟨hk1, rfl⟩ | ⟨cc, rfl, hk1, hk4⟩
            · have HK1 := Aside0.mk hk1
              clear hk1 HK
              go_wp2_with (first | (go_at_call 49; (with_reducible refine (impl_Table_at.calls _ _ _ _ _ HA.out).mono ?_); rintro e w3 ⟨rfl, hb3⟩; have BX : Aside0 (Below wr.heap.size wr w3) := ⟨(pw_below_drewN (Below.refl _ _) _).trans hb3⟩; clear hb3; have RT := Aside0.mk (blk_below HT.out BX.out); have q0 := blk_cell RT.out 0; have q1 := blk_cell RT.out 1))
              go_roundg (N - (i + 1))
              case measure => omega
              case rel => exact ⟨i + 1, _, by omega, by omega, by go_num, rfl, ⟨.inr ⟨z, rfl, by rw [HP.out]; simp, fun x hx => by rw [HP.out, HK1.out] at hx; simp at hx; rw [hx]; exact HZ.out⟩⟩, ⟨HR.out.trans (BX.out.mono HR.out.size)⟩, ⟨blk_below HS.out BX.out⟩, ⟨blk_below HT.out BX.out⟩⟩
            · have HK1 := Aside0.mk hk1
              have HK4 := Aside0.mk hk4
              clear hk1 hk4 HK
              by_cases hzc : z = cc
              · subst hzc
                have HKZ : Aside0 (impl_talk_value.K v (impl_talk_value.pre 0 a b (i + 1)) ((z.toNat : Nat) : Int)) := ⟨.inr ⟨z, rfl, by rw [HP.out]; simp, fun x hx => by
                  rw [HP.out] at hx
                  rcases List.mem_append.mp hx with hx | hx
                  · exact HK4.out x hx
                  · rw [List.mem_singleton] at hx; rw [hx]; exact HZ.out⟩⟩
                cases z
                all_goals
                  go_wp2_with (first | (go_at_call 49; (with_reducible refine (impl_Table_at.calls _ _ _ _ _ HA.out).mono ?_); rintro e w3 ⟨rfl, hb3⟩; have BX : Aside0 (Below wr.heap.size wr w3) := ⟨(pw_below_drewN (Below.refl _ _) _).trans hb3⟩; clear hb3; have RT := Aside0.mk (blk_below HT.out BX.out); have q0 := blk_cell RT.out 0; have q1 := blk_cell RT.out 1) | (go_at_call 49; (with_reducible refine (impl_Table_at.calls _ _ _ _ _ HA.out).mono ?_); rintro e w4 ⟨rfl, hb4⟩; have BY : Aside0 (Below wr.heap.size wr w4) := ⟨BX.out.trans (hb4.mono BX.out.size)⟩; clear hb4))
                  go_roundg (N - (i + 1))
                  case measure => omega
                  case rel => exact ⟨i + 1, _, by omega, by omega, by go_num, rfl, HKZ, ⟨HR.out.trans (BY.out.mono HR.out.size)⟩, ⟨blk_below HS.out BY.out⟩, ⟨blk_below HT.out BY.out⟩⟩
              · have HC : Aside0 (conB n 0 v a b = false) := ⟨by rw [HCON.out, HFX.out]; exact impl_talk_value.con_not HLT.out HP.out HK1.out HK4.out (HZ.out.trans (bool_not hzc))⟩
                cases z <;> cases cc
                all_goals first
                | exact absurd rfl hzc
                | (go_wp2_with (first | (go_at_call 49; (with_reducible refine (impl_Table_at.calls _ _ _ _ _ HA.out).mono ?_); rintro e w3 ⟨rfl, hb3⟩; have BX : Aside0 (Below wr.heap.size wr w3) := ⟨(pw_below_drewN (Below.refl _ _) _).trans hb3⟩; clear hb3; have RT := Aside0.mk (blk_below HT.out BX.out); have q0 := blk_cell RT.out 0; have q1 := blk_cell RT.out 1))
                   go_ret
                   exact ⟨-1, rfl, by rw [HC.out]; rfl, HR.out.trans (BX.out.mono HR.out.size)⟩)
      · have er := er0 1 (by decide)
        obtain ⟨c, hc⟩ : ∃ c, c = i / 2 := ⟨_, rfl⟩
        have ec : (i : Int) / 2 = (c : Int) := by omega
        rw [show i / 2 ^ 1 = c by rw [hc]] at PH PM
        have hc64 : c ≤ 64 := by omega
        clear hc
        have htb := bit_nat (a := b) (n := c) (by omega) hc64
        rw [es b c hc64] at htb
        clear es er0
        cases hA : a.testBit r with
        | false =>
          have HP := Aside0.mk (PM.out (by rw [hA]; rfl))
          rw [hA] at hta
          clear hA htb PH PM
          go_wp2
          go_quiet (fail)
          go_wp2
          go_roundg (N - (i + 1))
          case measure => omega
          case rel => exact ⟨i + 1, y, by omega, by omega, by go_num, rfl, ⟨by rw [HP.out]; exact HK.out⟩, ⟨HR.out.trans ((pw_below_drewN (Below.refl _ _) _).mono HR.out.size)⟩, ⟨blk_drewN HS.out _⟩, ⟨blk_drewN HT.out _⟩⟩
        | true =>
          cases hB : b.testBit c with
          | false =>
            have HP := Aside0.mk (PM.out (by rw [hA, hB]; rfl))
            rw [hA] at hta
            rw [hB] at htb
            clear hA hB PH PM
            go_wp2
            go_quiet (fail)
            go_wp2
            go_roundg (N - (i + 1))
            case measure => omega
            case rel => exact ⟨i + 1, y, by omega, by omega, by go_num, rfl, ⟨by rw [HP.out]; exact HK.out⟩, ⟨HR.out.trans ((pw_below_drewN (Below.refl _ _) _).mono HR.out.size)⟩, ⟨blk_drewN HS.out _⟩, ⟨blk_drewN HT.out _⟩⟩
          | true =>
            have HP := Aside0.mk (PH.out (by rw [hA, hB]; rfl))
            rw [hA] at hta
            rw [hB] at htb
            clear hA hB PH PM
            go_wp2
            go_quiet (fail)
            have HA := Aside0.mk (HAT.out i (by omega))
            obtain ⟨z, hz⟩ : ∃ z, v.testBit i = z := ⟨_, rfl⟩
            rw [hz] at HA
            have HZ := Aside0.mk hz
            clear hz
            have HLT := Aside0.mk hlt
            rcases HK.out with ⟨hk1, rfl⟩ | ⟨cc, rfl, hk1, hk4⟩
            · have HK1 := Aside0.mk hk1
              clear hk1 HK
              go_wp2_with (first | (go_at_call 49; (with_reducible refine (impl_Table_at.calls _ _ _ _ _ HA.out).mono ?_); rintro e w3 ⟨rfl, hb3⟩; have BX : Aside0 (Below wr.heap.size wr w3) := ⟨(pw_below_drewN (Below.refl _ _) _).trans hb3⟩; clear hb3; have RT := Aside0.mk (blk_below HT.out BX.out); have q0 := blk_cell RT.out 0; have q1 := blk_cell RT.out 1))
              go_roundg (N - (i + 1))
              case measure => omega
              case rel => exact ⟨i + 1, _, by omega, by omega, by go_num, rfl, ⟨.inr ⟨z, rfl, by rw [HP.out]; simp, fun x hx => by rw [HP.out, HK1.out] at hx; simp at hx; rw [hx]; exact HZ.out⟩⟩, ⟨HR.out.trans (BX.out.mono HR.out.size)⟩, ⟨blk_below HS.out BX.out⟩, ⟨blk_below HT.out BX.out⟩⟩
            · have HK1 := Aside0.mk hk1
              have HK4 := Aside0.mk hk4
              clear hk1 hk4 HK
              by_cases hzc : z = cc
              · subst hzc
                have HKZ : Aside0 (impl_talk_value.K v (impl_talk_value.pre 1 a b (i + 1)) ((z.toNat : Nat) : Int)) := ⟨.inr ⟨z, rfl, by rw [HP.out]; simp, fun x hx => by
                  rw [HP.out] at hx
                  rcases List.mem_append.mp hx with hx | hx
                  · exact HK4.out x hx
                  · rw [List.mem_singleton] at hx; rw [hx]; exact HZ.out⟩⟩
                cases z
                all_goals
                  go_wp2_with (first | (go_at_call 49; (with_reducible refine (impl_Table_at.calls _ _ _ _ _ HA.out).mono ?_); rintro e w3 ⟨rfl, hb3⟩; have BX : Aside0 (Below wr.heap.size wr w3) := ⟨(pw_below_drewN (Below.refl _ _) _).trans hb3⟩; clear hb3; have RT := Aside0.mk (blk_below HT.out BX.out); have q0 := blk_cell RT.out 0; have q1 := blk_cell RT.out 1) | (go_at_call 49; (with_reducible refine (impl_Table_at.calls _ _ _ _ _ HA.out).mono ?_); rintro e w4 ⟨rfl, hb4⟩; have BY : Aside0 (Below wr.heap.size wr w4) := ⟨BX.out.trans (hb4.mono BX.out.size)⟩; clear hb4))
                  go_roundg (N - (i + 1))
                  case measure => omega
                  case rel => exact ⟨i + 1, _, by omega, by omega, by go_num, rfl, HKZ, ⟨HR.out.trans (BY.out.mono HR.out.size)⟩, ⟨blk_below HS.out BY.out⟩, ⟨blk_below HT.out BY.out⟩⟩
              · have HC : Aside0 (conB n 1 v a b = false) := ⟨by rw [HCON.out, HFX.out]; exact impl_talk_value.con_not HLT.out HP.out HK1.out HK4.out (HZ.out.trans (bool_not hzc))⟩
                cases z <;> cases cc
                all_goals first
                | exact absurd rfl hzc
                | (go_wp2_with (first | (go_at_call 49; (with_reducible refine (impl_Table_at.calls _ _ _ _ _ HA.out).mono ?_); rintro e w3 ⟨rfl, hb3⟩; have BX : Aside0 (Below wr.heap.size wr w3) := ⟨(pw_below_drewN (Below.refl _ _) _).trans hb3⟩; clear hb3; have RT := Aside0.mk (blk_below HT.out BX.out); have q0 := blk_cell RT.out 0; have q1 := blk_cell RT.out 1))
                   go_ret
                   exact ⟨-1, rfl, by rw [HC.out]; rfl, HR.out.trans (BX.out.mono HR.out.size)⟩)
      · have er := er0 3 (by decide)
        obtain ⟨c, hc⟩ : ∃ c, c = i / 4 := ⟨_, rfl⟩
        have ec : (i : Int) / 4 = (c : Int) := by omega
        rw [show i / 2 ^ 2 = c by rw [hc]] at PH PM
        have hc64 : c ≤ 64 := by omega
        clear hc
        have htb := bit_nat (a := b) (n := c) (by omega) hc64
        rw [es b c hc64] at htb
        clear es er0
        cases hA : a.testBit r with
        | false =>
          have HP := Aside0.mk (PM.out (by rw [hA]; rfl))
          rw [hA] at hta
          clear hA htb PH PM
          go_wp2
          go_quiet (fail)
          go_wp2
          go_roundg (N - (i + 1))
          case measure => omega
          case rel => exact ⟨i + 1, y, by omega, by omega, by go_num, rfl, ⟨by rw [HP.out]; exact HK.out⟩, ⟨HR.out.trans ((pw_below_drewN (Below.refl _ _) _).mono HR.out.size)⟩, ⟨blk_drewN HS.out _⟩, ⟨blk_drewN HT.out _⟩⟩
        | true =>
          cases hB : b.testBit c with
          | false =>
            have HP := Aside0.mk (PM.out (by rw [hA, hB]; rfl))
            rw [hA] at hta
            rw [hB] at htb
            clear hA hB PH PM
            go_wp2
            go_quiet (fail)
            go_wp2
            go_roundg (N - (i + 1))
            case measure => omega
            case rel => exact ⟨i + 1, y, by omega, by omega, by go_num, rfl, ⟨by rw [HP.out]; exact HK.out⟩, ⟨HR.out.trans ((pw_below_drewN (Below.refl _ _) _).mono HR.out.size)⟩, ⟨blk_drewN HS.out _⟩, ⟨blk_drewN HT.out _⟩⟩
          | true =>
            have HP := Aside0.mk (PH.out (by rw [hA, hB]; rfl))
            rw [hA] at hta
            rw [hB] at htb
            clear hA hB PH PM
            go_wp2
            go_quiet (fail)
            have HA := Aside0.mk (HAT.out i (by omega))
            obtain ⟨z, hz⟩ : ∃ z, v.testBit i = z := ⟨_, rfl⟩
            rw [hz] at HA
            have HZ := Aside0.mk hz
            clear hz
            have HLT := Aside0.mk hlt
            rcases HK.out with ⟨hk1, rfl⟩ | ⟨cc, rfl, hk1, hk4⟩
            · have HK1 := Aside0.mk hk1
              clear hk1 HK
              go_wp2_with (first | (go_at_call 49; (with_reducible refine (impl_Table_at.calls _ _ _ _ _ HA.out).mono ?_); rintro e w3 ⟨rfl, hb3⟩; have BX : Aside0 (Below wr.heap.size wr w3) := ⟨(pw_below_drewN (Below.refl _ _) _).trans hb3⟩; clear hb3; have RT := Aside0.mk (blk_below HT.out BX.out); have q0 := blk_cell RT.out 0; have q1 := blk_cell RT.out 1))
              go_roundg (N - (i + 1))
              case measure => omega
              case rel => exact ⟨i + 1, _, by omega, by omega, by go_num, rfl, ⟨.inr ⟨z, rfl, by rw [HP.out]; simp, fun x hx => by rw [HP.out, HK1.out] at hx; simp at hx; rw [hx]; exact HZ.out⟩⟩, ⟨HR.out.trans (BX.out.mono HR.out.size)⟩, ⟨blk_below HS.out BX.out⟩, ⟨blk_below HT.out BX.out⟩⟩
            · have HK1 := Aside0.mk hk1
              have HK4 := Aside0.mk hk4
              clear hk1 hk4 HK
              by_cases hzc : z = cc
              · subst hzc
                have HKZ : Aside0 (impl_talk_value.K v (impl_talk_value.pre 2 a b (i + 1)) ((z.toNat : Nat) : Int)) := ⟨.inr ⟨z, rfl, by rw [HP.out]; simp, fun x hx => by
                  rw [HP.out] at hx
                  rcases List.mem_append.mp hx with hx | hx
                  · exact HK4.out x hx
                  · rw [List.mem_singleton] at hx; rw [hx]; exact HZ.out⟩⟩
                cases z
                all_goals
                  go_wp2_with (first | (go_at_call 49; (with_reducible refine (impl_Table_at.calls _ _ _ _ _ HA.out).mono ?_); rintro e w3 ⟨rfl, hb3⟩; have BX : Aside0 (Below wr.heap.size wr w3) := ⟨(pw_below_drewN (Below.refl _ _) _).trans hb3⟩; clear hb3; have RT := Aside0.mk (blk_below HT.out BX.out); have q0 := blk_cell RT.out 0; have q1 := blk_cell RT.out 1) | (go_at_call 49; (with_reducible refine (impl_Table_at.calls _ _ _ _ _ HA.out).mono ?_); rintro e w4 ⟨rfl, hb4⟩; have BY : Aside0 (Below wr.heap.size wr w4) := ⟨BX.out.trans (hb4.mono BX.out.size)⟩; clear hb4))
                  go_roundg (N - (i + 1))
                  case measure => omega
                  case rel => exact ⟨i + 1, _, by omega, by omega, by go_num, rfl, HKZ, ⟨HR.out.trans (BY.out.mono HR.out.size)⟩, ⟨blk_below HS.out BY.out⟩, ⟨blk_below HT.out BY.out⟩⟩
              · have HC : Aside0 (conB n 2 v a b = false) := ⟨by rw [HCON.out, HFX.out]; exact impl_talk_value.con_not HLT.out HP.out HK1.out HK4.out (HZ.out.trans (bool_not hzc))⟩
                cases z <;> cases cc
                all_goals first
                | exact absurd rfl hzc
                | (go_wp2_with (first | (go_at_call 49; (with_reducible refine (impl_Table_at.calls _ _ _ _ _ HA.out).mono ?_); rintro e w3 ⟨rfl, hb3⟩; have BX : Aside0 (Below wr.heap.size wr w3) := ⟨(pw_below_drewN (Below.refl _ _) _).trans hb3⟩; clear hb3; have RT := Aside0.mk (blk_below HT.out BX.out); have q0 := blk_cell RT.out 0; have q1 := blk_cell RT.out 1))
                   go_ret
                   exact ⟨-1, rfl, by rw [HC.out]; rfl, HR.out.trans (BX.out.mono HR.out.size)⟩)
    · obtain rfl : i = N := by omega
      have HNN := Aside0.mk (impl_talk_value.con_of HK.out HNE.out)
      go_wp2
      go_ret
      exact ⟨y, rfl, by rw [HNN.out, HCON.out, HFX.out], HR.out⟩


end Go.Proofs.Ythkdjccjcpneiaa.Print
