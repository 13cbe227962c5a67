/- Functions of the given program as plain Lean functions, with proofs that their calls compute them, or lemmas on these. Laid by a program of this repo for the seat Ythkdjccjcpneiaa; Lean checks it. -/
import Derived.Test.YthkdjccjcpneiaaKExactDepthSum0
import Derived.Test.YthkdjccjcpneiaaKExactDepthSum1
import Derived.Test.YthkdjccjcpneiaaKExactDepthSum2
import Derived.Test.YthkdjccjcpneiaaKExactDepthSum5
import Derived.Test.YthkdjccjcpneiaaM12
import Derived.Shelf.GgClosure.Gives
import Derived.Deep.RegionHeld3
import Derived.BigQuiet
namespace Go.Proofs.Ythkdjccjcpneiaa.Print
open Go.RowKit Go.Proofs.YthkdjccjcpneiaaW.PrintWords Go.Proofs.YthkdjccjcpneiaaW.PrintLast Go.Proofs.YthkdjccjcpneiaaW.PrintMore
attribute [local go_sem] max2_int min2_int max_two min_two max_three min_three max_four min_four   -- for this text's walks alone
set_option linter.unusedVariables false
set_option linter.unusedSimpArgs false

--OWNPART
/-! ### impl_cubes: function 39 -/
--IMPORT M12
--IMPORT Derived.Shelf.GgClosure.Gives
--IMPORT Derived.Deep.RegionHeld3
--IMPORT Derived.BigQuiet
open Go.Proofs.Ythkdjccjcpneiaa.M
/-- nothing that lies from B on has turned -/
def impl_cubes.Away (B : Nat) (W W' : World) : Prop := W.heap.size ≤ W'.heap.size ∧ ∀ b, B ≤ b → b < W.heap.size → W'.heap[b]? = W.heap[b]?
theorem impl_cubes.Away.refl (B : Nat) (W : World) : impl_cubes.Away B W W := ⟨Nat.le_refl _, fun _ _ _ => rfl⟩
theorem impl_cubes.Away.trans {B : Nat} {W W' W'' : World} (h : impl_cubes.Away B W W') (h' : impl_cubes.Away B W' W'') : impl_cubes.Away B W W'' :=
  ⟨Nat.le_trans h.1 h'.1, fun b h1 h2 => (h'.2 b h1 (Nat.lt_of_lt_of_le h2 h.1)).trans (h.2 b h1 h2)⟩
theorem impl_cubes.Away.below (B : Nat) {W W' : World} (h : Below W.heap.size W W') : impl_cubes.Away B W W' := ⟨h.size, fun b _ h2 => h.block b h2⟩
theorem impl_cubes.Away.blk {B g : Nat} {W W' : World} {o : Obj} (h : impl_cubes.Away B W W') (hg : B ≤ g) (hb : W.heap[g]? = some o) : W'.heap[g]? = some o := (h.2 g hg (blk_lt hb)).trans hb
theorem impl_cubes.Away.setCell {B : Nat} {W : World} {p : Addr} (hp : p.block < B) (u : Value) : impl_cubes.Away B W (W.setCell p u) := ⟨((Below.refl 0 W).setCell (Nat.zero_le _) u).size, fun b h1 _ => Below.heap_setCell W p u b (by omega)⟩
theorem impl_cubes.size_some (n v : Nat) (hn : n ≤ 5) : impl_Table_size.f (n : Int) (v : Int) = some ((2 ^ n : Nat) : Int) := by
  unfold impl_Table_size.f
  rw [if_pos (Int.natCast_nonneg n), shl_one (by omega)]
theorem impl_cubes.ones_pc {w : Nat} (h : w < 2 ^ 32) : impl_ones.f w = some ((pc w : Nat) : Int) := by
  unfold impl_ones.f
  rw [u64n (by omega)]
  unfold bits_OnesCount64.f
  rw [sA_eq h, sB_eq (sA_lt h), sC_eq (sB_lt (sA_lt h)), Option.bind_some]
  exact congrArg some (swar_end h rfl _ rfl)
set_option maxHeartbeats 8000000 in
set_option maxRecDepth 100000 in
theorem impl_cubes.call (n v kk N : Nat) (hn : n ≤ 4) (hN : N = 2 ^ n) (hv : v < 2 ^ 2 ^ n) (hk : kk ≤ n) (hsm : impl_isSmall.f (n : Int) (v : Int) 4 = some true) (g : Nat) (lb : Array Value) (eg : ∀ args w, (callFunc g args).run Try.prog w = .ok (.enter g args) w) (I : List Nat → World → Prop) (w : World) (h0 : I [] w)
    (hs : ∀ l W W', I l W → Below w.heap.size W W' → I l W')
    (hc : ∀ (l : List Nat) (x : Nat) (W : World), x < 2 ^ 2 ^ kk → I l W → Calls Try.prog g (#[.agg #[.int .i64 (kk : Int), .int .i64 (x : Int)]] ++ lb) W fun e W' => e = .returned (.tuple #[]) ∧ I (l ++ [x]) W' ∧ impl_cubes.Away w.heap.size W W') :
    Calls Try.prog 39 #[.agg #[.int .i64 (n : Int), .int .i64 (v : Int)], .int .i64 (kk : Int), .func (.func g) #[] lb] w fun e w' => e = .returned (.bool true) ∧ I (cutAll n v kk N) w' := by
  have huT := Try.underlying25
  have H0 := Aside0.mk h0
  have HS := Aside0.mk hs
  have HC := Aside0.mk hc
  have HSM := Aside0.mk hsm
  have HSZ := Aside0.mk (impl_cubes.size_some n v (by omega))
  rw [← hN] at HSZ
  have hN16 : N ≤ 16 := by rw [hN]; exact Nat.pow_le_pow_right (n := 2) (by decide) hn
  have HV := Aside0.mk hv
  have hkn : decide ((kk : Int) > (n : Int)) = false := decide_eq_false (by omega)
  have hkn2 : decide ((n : Int) < (kk : Int)) = false := decide_eq_false (by omega)
  have hkn3 : decide (n < kk) = false := decide_eq_false (by omega)
  have hk0 : decide ((kk : Int) < 0) = false := decide_eq_false (by omega)
  have B0 : Aside0 (∀ W, Below (w.alloc (.cells #[.int .i64 (n : Int), .int .i64 (v : Int)] 25)).heap.size (w.alloc (.cells #[.int .i64 (n : Int), .int .i64 (v : Int)] 25)) W → W.heap[w.heap.size]? = some (.cells #[.int .i64 (n : Int), .int .i64 (v : Int)] 25 (0, 0))) := ⟨fun W hb => blk_below (blk_new w _) hb⟩
  have BB : Aside0 (Below w.heap.size w (w.alloc (.cells #[.int .i64 (n : Int), .int .i64 (v : Int)] 25))) := ⟨(Below.refl _ _).alloc (Nat.le_refl _) _⟩
  have hnn := Aside0.mk hn
  have hNN := Aside0.mk hN
  have hkk := Aside0.mk hk
  clear h0 hs hc hsm hv hn hN hk
  go_enter Try.func39, Try.ntmps39
  go_wp2_with (first | (go_at_call 41; (with_reducible refine (impl_isSmall.calls _ _ _ _ _ HSM.out).mono ?_); rintro e w' ⟨rfl, hb⟩; have B1 := Aside0.mk hb; clear hb; have p0 := blk_cell (B0.out _ B1.out) 0; have p1 := blk_cell (B0.out _ B1.out) 1) | (go_at_call 48; (with_reducible refine (impl_Table_size.calls _ _ _ _ HSZ.out).mono ?_); rintro e w2 ⟨rfl, hb⟩; have B2 := Aside0.mk (B1.out.trans (hb.mono B1.out.size)); clear hb))
  go_loopg [26] N (fun gg v26 wr => ∃ m : Nat, m ≤ N ∧ N - m ≤ gg ∧ v26 = .int .i64 (m : Int) ∧ Aside0 (I (cutAll n v kk m) wr) ∧ Aside0 (wr.heap[w.heap.size]? = some (.cells #[.int .i64 (n : Int), .int .i64 (v : Int)] 25 (0, 0))) ∧ Aside0 (w.heap.size < wr.heap.size))
  case atStart => exact ⟨0, Nat.zero_le _, by omega, rfl, ⟨HS.out _ _ _ H0.out (BB.out.trans (B2.out.mono BB.out.size))⟩, ⟨B0.out _ B2.out⟩, ⟨blk_lt (B0.out _ B2.out)⟩⟩
  case round =>
    clear p0 p1 B1 B2 H0
    obtain ⟨m, hm, hg, rfl, HI, HT, HZ⟩ := hrel
    by_cases hlt : m < N
    · have hltz : (m : Int) < (N : Int) := by omega
      have c0 := blk_cell HT.out 0
      have c1 := blk_cell HT.out 1
      have hnv := hnn.out
      have hNv := hNN.out
      have hlp := left_all n (by omega) m (by omega) (by omega)
      have hpp : pc m ≤ n := by omega
      have HP := Aside0.mk (impl_cubes.ones_pc (w := m) (by omega))
      have HL := Aside0.mk hlp
      have hall : cutAll n v kk (m + 1) = if pc m + kk = n then cutAll n v kk m ++ cutRow n v m (2 ^ n) else cutAll n v kk m := rfl
      rw [← hNv] at hall
      have HA := Aside0.mk hall
      generalize pc m = p at *
      have e1 : wrap64 ((n : Int) - (p : Int)) = (n : Int) - (p : Int) := w64 (by omega) (by omega)
      clear hlp hnv hNv hall
      by_cases hpk : p + kk = n
      · have e2 : ((n : Int) - (p : Int) != (kk : Int)) = false := bne_eq_false_iff_eq.mpr (by omega)
        have HPK := Aside0.mk hpk
        clear hpk
        go_wp2
        go_quiet (first | (go_at_call 50; (with_reducible refine (impl_ones.calls _ _ _ HP.out).mono ?_); rintro e w' ⟨rfl, ⟨nd2, rfl⟩⟩; (first | exact ⟨rfl, _, World.drewN_drewN _ _ _⟩ | exact ⟨rfl, _, Eq.trans (World.drewN_drewN _ _ _) (congrArg (World.drewN _) (Nat.add_assoc _ _ _))⟩)))
        have c0 : ∀ nd, (wr.drewN nd).cell? ⟨w.heap.size, 0, none⟩ = some (.int .i64 (n : Int)) := fun nd => blk_cell (blk_drewN HT.out nd) 0
        have c1 : ∀ nd, (wr.drewN nd).cell? ⟨w.heap.size, 1, none⟩ = some (.int .i64 (v : Int)) := fun nd => blk_cell (blk_drewN HT.out nd) 1
        go_wp2_with (first | (go_at_call 48; (with_reducible refine (impl_Table_size.calls _ _ _ _ HSZ.out).mono ?_); rintro e w3 ⟨rfl, hb⟩; have B3 : Aside0 (Below wr.heap.size wr w3) := ⟨(pw_below_drewN (Below.refl _ _) _).trans hb⟩; clear hb))
        clear c0 c1
        go_loopg [38] N (fun gg2 v38 wr => ∃ u : Nat, u ≤ N ∧ N - u ≤ gg2 ∧ v38 = .int .i64 (u : Int) ∧ Aside0 (I (cutAll n v kk m ++ cutRow n v m u) wr) ∧ Aside0 (wr.heap[w.heap.size]? = some (.cells #[.int .i64 (n : Int), .int .i64 (v : Int)] 25 (0, 0))) ∧ Aside0 (w.heap.size < wr.heap.size))
        case atStart => exact ⟨0, Nat.zero_le _, by omega, rfl, ⟨by rw [show cutRow n v m 0 = [] from rfl, List.append_nil]; exact HS.out _ _ _ HI.out (B3.out.mono (Nat.le_of_lt HZ.out))⟩, ⟨blk_below HT.out B3.out⟩, ⟨Nat.lt_of_lt_of_le HZ.out B3.out.size⟩⟩
        case round =>
          clear B3 HI HT HZ
          obtain ⟨u, hu, hg2, rfl, HI, HT, HZ⟩ := hrel
          by_cases hlt2 : u < N
          · have hltz2 : (u : Int) < (N : Int) := by omega
            have e3 : Go.bits .andNot .i64 (u : Int) (m : Int) = ((andn u m : Nat) : Int) := andNot_nat (by omega) (by omega)
            have hrow : cutRow n v m (u + 1) = if andn u m = 0 then cutRow n v m u ++ [(cutS n v m u n).2] else cutRow n v m u := rfl
            have HRW := Aside0.mk hrow
            clear hrow
            generalize hz : andn u m = z at *
            clear hz
            by_cases hzz : z = 0
            · subst hzz
              have c0 : wr.cell? ⟨w.heap.size, 0, none⟩ = some (.int .i64 (n : Int)) := blk_cell HT.out 0
              have c1 : wr.cell? ⟨w.heap.size, 1, none⟩ = some (.int .i64 (v : Int)) := blk_cell HT.out 1
              have en : wrap64 ((n : Int) - 1) = (n : Int) - 1 := by have := hnn.out; exact w64 (by omega) (by omega)
              have HT9 : Aside0 ((wr.alloc (.cells #[.int .i64 (n : Int), .int .i64 (v : Int)] 25)).heap[wr.heap.size]? = some (.cells #[.int .i64 (n : Int), .int .i64 (v : Int)] 25 (0, 0))) := ⟨blk_new _ _⟩
              have HTA : Aside0 ((wr.alloc (.cells #[.int .i64 (n : Int), .int .i64 (v : Int)] 25)).heap[w.heap.size]? = some (.cells #[.int .i64 (n : Int), .int .i64 (v : Int)] 25 (0, 0))) := ⟨blk_alloc HT.out _⟩
              have HIA : Aside0 (I (cutAll n v kk m ++ cutRow n v m u) (wr.alloc (.cells #[.int .i64 (n : Int), .int .i64 (v : Int)] 25))) := ⟨HS.out _ _ _ HI.out ((Below.refl _ _).alloc (Nat.le_of_lt HZ.out) _)⟩
              have d0 := blk_cell HTA.out 0
              have HC0 : Aside0 (cutS n v m u 0 = (n, v)) := ⟨rfl⟩
              go_wp2
              clear c0 c1 d0
              obtain ⟨G, hG⟩ : ∃ G, G = wr.heap.size := ⟨_, rfl⟩
              have HG1 : Aside0 (w.heap.size < G) := ⟨by rw [hG]; exact HZ.out⟩
              rw [← hG] at HT9
              rw [← hG]
              have HSZ9 : Aside0 (G < (wr.alloc (.cells #[.int .i64 (n : Int), .int .i64 (v : Int)] 25)).heap.size) := ⟨by rw [hG]; simp⟩
              clear hG HZ HT HI
              go_loopg [10] n (fun gg3 v10 wr => ∃ d : Nat, d ≤ n ∧ n - d ≤ gg3 ∧ v10 = .int .i64 ((n : Int) - 1 - (d : Int)) ∧ Aside0 (I (cutAll n v kk m ++ cutRow n v m u) wr) ∧ Aside0 (wr.heap[w.heap.size]? = some (.cells #[.int .i64 (n : Int), .int .i64 (v : Int)] 25 (0, 0))) ∧ Aside0 (wr.heap[G]? = some (.cells #[.int .i64 ((cutS n v m u d).1 : Int), .int .i64 ((cutS n v m u d).2 : Int)] 25 (0, 0))) ∧ Aside0 (G < wr.heap.size))
              case atStart => exact ⟨0, Nat.zero_le _, by omega, by simp, HIA, HTA, ⟨by rw [HC0.out]; exact HT9.out⟩, HSZ9⟩
              case round =>
                clear HT9 HTA HIA HSZ9
                obtain ⟨d, hd, hg3, rfl, HI, HT, HT9, HZ⟩ := hrel
                by_cases hlt3 : d < n
                · have hn4 := hnn.out
                  obtain ⟨i, hi⟩ : ∃ i, i = n - 1 - d := ⟨_, rfl⟩
                  have ei : (n : Int) - 1 - (d : Int) = (i : Int) := by omega
                  have ei1 : wrap64 ((i : Int) - 1) = (n : Int) - 1 - ((d + 1 : Nat) : Int) := by rw [w64 (by omega) (by omega)]; omega
                  have hcut : cutS n v m u (d + 1) = if m.testBit (n - 1 - d) = true then ((cutS n v m u d).1 - 1, rstW (cutS n v m u d).1 (cutS n v m u d).2 (n - 1 - d) (u.testBit (n - 1 - d)).toNat) else cutS n v m u d := rfl
                  obtain ⟨o1, o2, o3⟩ := cut_ok (m := m) (u := u) hnn.out HV.out d (by omega)
                  rw [← hi] at hcut
                  rw [ei]
                  have hmb := bit_nat (a := m) (n := i) (by omega) (by omega)
                  have hub := bit_nat (a := u) (n := i) (by omega) (by omega)
                  have es : ∀ y : Nat, shr .i64 (y : Int) (i : Int) = (y : Int) / 2 ^ i := fun y => by rw [shr_nat (by omega)]; push_cast; rfl
                  rw [es] at hmb hub
                  have hi64 : i ≤ 64 := by omega
                  have hi4 : i < 4 := by omega
                  have hbi : i + 1 ≤ (cutS n v m u d).1 := by omega
                  clear es hi
                  generalize cutS n v m u d = s at *
                  obtain ⟨b, x⟩ := s
                  simp only [] at o1 o2 o3 hbi hcut HT9
                  cases hm : m.testBit i with
                  | true =>
                    rw [hm] at hmb
                    rw [hm, if_pos rfl] at hcut
                    have hR : impl_Table_restrict.f (b : Int) (x : Int) (i : Int) (((u.testBit i).toNat : Nat) : Int) = some (((b - 1 : Nat) : Int), ((rstW b x i (u.testBit i).toNat : Nat) : Int)) := by
                      have hx32 : x < 2 ^ 32 := Nat.lt_of_lt_of_le o3 (full_lt (by omega))
                      have ht := toNat_le (u.testBit i)
                      unfold impl_Table_restrict.f
                      rw [if_pos (by omega)]
                      congr 2
                      omega
                    have HRS := Aside0.mk (fun W => impl_Table_restrict.calls _ _ _ _ _ _ W hR)
                    have k0 := blk_cell HT9.out 0
                    have k1 := blk_cell HT9.out 1
                    have y0 := blk_frozen HT9.out 0
                    have y1 := blk_frozen HT9.out 1
                    generalize (((u.testBit i).toNat : Nat) : Int) = ub at *
                    generalize hxr : rstW b x i (u.testBit i).toNat = xr at *
                    clear hR o1 o2 o3 hbi hxr
                    go_wp2
                    go_region_with (first | (go_at_call 51; (with_reducible refine (HRS.out _).mono ?_); rintro e w3 ⟨rfl, hb3⟩; have RB := Aside0.mk (blk_below (blk_drewN HT9.out _) hb3); have r0 := blk_cell RB.out 0; have r1 := blk_cell RB.out 1; have z0 := blk_frozen RB.out 0; have z1 := blk_frozen RB.out 1; have B3 : Aside0 (Below wr.heap.size wr w3) := ⟨(pw_below_drewN (Below.refl _ _) _).trans hb3⟩; clear hb3))
                    all_goals
                      go_wp2
                      have hgw : w.heap.size ≤ G := Nat.le_of_lt HG1.out
                      have hBB := (((B3.out.mono (Nat.le_trans hgw (Nat.le_of_lt HZ.out))).setCell (p := ⟨G, 0, none⟩) hgw (.int .i64 ((b - 1 : Nat) : Int))).setCell (p := ⟨G, 1, none⟩) hgw (.int .i64 (xr : Int)))
                      have hTT := blk_far (blk_far (blk_below HT.out B3.out) (p := ⟨G, 0, none⟩) (Nat.ne_of_lt HG1.out) (.int .i64 ((b - 1 : Nat) : Int))) (p := ⟨G, 1, none⟩) (Nat.ne_of_lt HG1.out) (.int .i64 (xr : Int))
                      have hGG := blk_set (blk_set RB.out 0 (.int .i64 ((b - 1 : Nat) : Int))) 1 (.int .i64 (xr : Int))
                      have HBBa := Aside0.mk hBB
                      have HTTa := Aside0.mk hTT
                      have HGGa := Aside0.mk hGG
                      clear hBB hTT hGG
                      go_roundg (n - (d + 1))
                      case measure => omega
                      case rel =>
                        refine ⟨d + 1, by omega, by omega, by rw [← ei1]; go_num, ⟨HS.out _ _ _ HI.out HBBa.out⟩, ⟨HTTa.out⟩, ⟨?_⟩, ⟨blk_lt HGGa.out⟩⟩
                        rw [hcut]
                        simpa using HGGa.out
                  | false =>
                    rw [hm] at hmb
                    rw [hm, if_neg (by decide)] at hcut
                    go_wp2
                    go_roundg (n - (d + 1))
                    case measure => omega
                    case rel => exact ⟨d + 1, by omega, by omega, by rw [← ei1]; go_num, HI, HT, ⟨by rw [hcut]; exact HT9.out⟩, HZ⟩
                · obtain rfl : d = n := by omega
                  have e6 : decide ((d : Int) - 1 - (d : Int) ≥ 0) = false := decide_eq_false (by omega)
                  have e7 : (d : Int) - 1 - (d : Int) = -1 := by omega
                  have hl := cut_left d v m u d
                  have hla := HL.out
                  have hk1 : (cutS d v m u d).1 = kk := by have := HPK.out; omega
                  have ho3 := (cut_ok (m := m) (u := u) hnn.out HV.out d (by omega)).2.2
                  rw [hk1] at ho3
                  have hcall := HC.out (cutAll d v kk m ++ cutRow d v m u) (cutS d v m u d).2 wr ho3 HI.out
                  have HRW2 := HRW.out
                  rw [if_pos (by simp)] at HRW2
                  have HQ := Aside0.mk HRW2
                  rw [hk1] at HT9
                  have HCL := Aside0.mk hcall
                  clear hl hla hk1 ho3 hcall HRW2 HRW
                  generalize (cutS d v m u d).2 = x at *
                  have k0 := blk_cell HT9.out 0
                  have k1 := blk_cell HT9.out 1
                  rw [e7]
                  go_wp2_with (go_at_fn g; refine HCL.out.mono ?_; rintro e w4 ⟨rfl, hi4, ha4⟩; have HI4 := Aside0.mk hi4; have HA4 := Aside0.mk ha4; clear hi4 ha4)
                  go_roundg (N - (u + 1))
                  case measure => omega
                  case rel =>
                    refine ⟨u + 1, by omega, by omega, by go_num, ?_, ⟨HA4.out.blk (Nat.le_refl _) HT.out⟩, ⟨blk_lt (HA4.out.blk (Nat.le_refl _) HT.out)⟩⟩
                    rw [HQ.out, ← List.append_assoc]
                    exact HI4
            · have e4 : ((z : Int) != 0) = true := bne_iff_ne.mpr (by omega)
              have HZZ := Aside0.mk hzz
              clear hzz
              go_wp2
              go_roundg (N - (u + 1))
              case measure => omega
              case rel =>
                refine ⟨u + 1, by omega, by omega, by go_num, ?_, HT, HZ⟩
                rw [HRW.out, if_neg HZZ.out]
                exact HI
          · obtain rfl : u = N := by omega
            go_wp2
            go_roundg (u - (m + 1))
            case measure => omega
            case rel =>
              refine ⟨m + 1, by omega, by omega, by go_num, ?_, HT, HZ⟩
              rw [HA.out, if_pos HPK.out]
              exact HI
      · have e2 : ((n : Int) - (p : Int) != (kk : Int)) = true := bne_iff_ne.mpr (by omega)
        have HPK := Aside0.mk hpk
        clear hpk
        go_wp2
        go_quiet (first | (go_at_call 50; (with_reducible refine (impl_ones.calls _ _ _ HP.out).mono ?_); rintro e w' ⟨rfl, ⟨nd2, rfl⟩⟩; (first | exact ⟨rfl, _, World.drewN_drewN _ _ _⟩ | exact ⟨rfl, _, Eq.trans (World.drewN_drewN _ _ _) (congrArg (World.drewN _) (Nat.add_assoc _ _ _))⟩)))
        go_wp2
        go_roundg (N - (m + 1))
        case measure => omega
        case rel => 
          refine ⟨m + 1, by omega, by omega, by go_num, ?_, ⟨blk_drewN HT.out _⟩, ⟨HZ.out⟩⟩
          rw [HA.out, if_neg HPK.out]
          exact ⟨HS.out _ _ _ HI.out (pw_below_drewN (Below.refl _ _) _)⟩
    · obtain rfl : m = N := by omega
      go_wp2
      go_ret
      exact ⟨rfl, HI.out⟩
theorem impl_cubes.bad (a b kk : Int) (q : Bool) (hsm : impl_isSmall.f a b 4 = some q) (h : q = true → kk < 0 ∨ a < kk) (fv : Value) (w : World) :
    Calls Try.prog 39 #[.agg #[.int .i64 a, .int .i64 b], .int .i64 kk, fv] w fun e w' => e = .returned (.bool false) ∧ Below w.heap.size w w' := by
  have huT := Try.underlying25
  have HSM := Aside0.mk hsm
  have BB : Aside0 (Below w.heap.size w (w.alloc (.cells #[.int .i64 a, .int .i64 b] 25))) := ⟨(Below.refl _ _).alloc (Nat.le_refl _) _⟩
  have B0 : Aside0 (∀ W, Below (w.alloc (.cells #[.int .i64 a, .int .i64 b] 25)).heap.size (w.alloc (.cells #[.int .i64 a, .int .i64 b] 25)) W → W.heap[w.heap.size]? = some (.cells #[.int .i64 a, .int .i64 b] 25 (0, 0))) := ⟨fun W hb => blk_below (blk_new w _) hb⟩
  clear hsm
  cases q with
  | false =>
    clear h
    go_enter Try.func39, Try.ntmps39
    go_wp2_with (first | (go_at_call 41; (with_reducible refine (impl_isSmall.calls _ _ _ _ _ HSM.out).mono ?_); rintro e w' ⟨rfl, hb⟩))
    go_ret
    exact ⟨rfl, BB.out.trans (hb.mono BB.out.size)⟩
  | true =>
    have h := h rfl
    by_cases hk : kk < 0
    · have hk0 : decide (kk < 0) = true := decide_eq_true hk
      clear h hk
      go_enter Try.func39, Try.ntmps39
      go_wp2_with (first | (go_at_call 41; (with_reducible refine (impl_isSmall.calls _ _ _ _ _ HSM.out).mono ?_); rintro e w' ⟨rfl, hb⟩; have B1 := Aside0.mk hb; clear hb; have p0 := blk_cell (B0.out _ B1.out) 0; have p1 := blk_cell (B0.out _ B1.out) 1))
      go_ret
      exact ⟨rfl, BB.out.trans (B1.out.mono BB.out.size)⟩
    · have hk0 : decide (kk < 0) = false := decide_eq_false hk
      have hk1 : decide (kk > a) = true := decide_eq_true (by omega)
      have hk2 : decide (a < kk) = true := decide_eq_true (by omega)
      clear h hk
      go_enter Try.func39, Try.ntmps39
      go_wp2_with (first | (go_at_call 41; (with_reducible refine (impl_isSmall.calls _ _ _ _ _ HSM.out).mono ?_); rintro e w' ⟨rfl, hb⟩; have B1 := Aside0.mk hb; clear hb; have p0 := blk_cell (B0.out _ B1.out) 0; have p1 := blk_cell (B0.out _ B1.out) 1))
      go_ret
      exact ⟨rfl, BB.out.trans (B1.out.mono BB.out.size)⟩


end Go.Proofs.Ythkdjccjcpneiaa.Print
