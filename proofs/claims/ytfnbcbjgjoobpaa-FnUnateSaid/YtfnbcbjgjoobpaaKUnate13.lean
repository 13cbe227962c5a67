/- Functions of the given program as plain Lean functions, with proofs that their calls compute them, or lemmas on these. Laid by a program of this repo for the seat Ytfnbcbjgjoobpaa; Lean checks it. -/
import Derived.Test.YtfnbcbjgjoobpaaKUnate0
import Derived.Test.YtfnbcbjgjoobpaaM7
import Derived.Shelf.GgClosure.Gives
namespace Go.Proofs.Ytfnbcbjgjoobpaa.Print
open Go.RowKit Go.Proofs.YtfnbcbjgjoobpaaW.PrintWords Go.Proofs.YtfnbcbjgjoobpaaW.PrintLast Go.Proofs.YtfnbcbjgjoobpaaW.PrintMore
attribute [local go_sem] max2_int min2_int max_two min_two max_three min_three max_four min_four   -- for this text's walks alone
set_option linter.unusedVariables false
set_option linter.unusedSimpArgs false

--OWNPART
/-! ### impl_allTables: function 171 -/
--IMPORT M7
--IMPORT Derived.Shelf.GgClosure.Gives
open Go.Proofs.Ytfnbcbjgjoobpaa.M
set_option maxHeartbeats 1600000 in
set_option maxRecDepth 100000 in
theorem impl_allTables.call (n M : Nat) (hn : n ≤ 4) (hM : M = 2 ^ 2 ^ n) (g : Nat) (lb : Array Value) (eg : ∀ args w, (callFunc g args).run Try.prog w = .ok (.enter g args) w) (I : Nat → World → Prop) (w : World) (h0 : I 0 w)
    (hc : ∀ (i : Nat) (W : World), i < M → I i W → Calls Try.prog g (#[.agg #[.int .i64 (n : Int), .int .i64 (i : Int)]] ++ lb) W fun e W' => e = .returned (.tuple #[]) ∧ I (i + 1) W') :
    Calls Try.prog 171 #[.int .i64 (n : Int), .func (.func g) #[] lb] w fun e w' => e = .returned (.tuple #[]) ∧ I M w' := by
  have huT := Try.underlying25
  have H0 := Aside0.mk h0
  have HC := Aside0.mk hc
  obtain ⟨K, hK⟩ : ∃ K, K = 2 ^ n := ⟨_, rfl⟩
  have hK16 : K ≤ 16 := by rw [hK]; exact Nat.pow_le_pow_right (n := 2) (by decide) hn
  have e1 : Go.IntKind.u64.wrap (2 ^ n) = (K : Int) := by
    have := shlu_one (n := n) (by omega)
    rw [hK, ← this]; unfold shl; rw [min_bitsu (by omega), Int.one_mul]
  rw [← hK] at hM
  have hM2 : M ≤ 65536 := by rw [hM]; exact Nat.pow_le_pow_right (n := 2) (by decide) hK16
  have e2 : wrap64 (2 ^ K) = (M : Int) := by
    have := shl_one (n := K) (by omega)
    rw [hM, ← this]; unfold shl; rw [min_bits (by omega), Int.one_mul, i64_w]
  have hm1 : min n 64 = n := by omega
  have hm2 : min K 64 = K := by omega
  clear h0 hc hM hK hn
  go_enter Try.func171, Try.ntmps171
  go_wp2
  rw [e2]
  clear e2 e1
  go_loopw [8] (fun v8 wr => ∃ i : Nat, i ≤ M ∧ v8 = .int .i64 (i : Int) ∧ Aside0 (I i wr)) (fun v8 _ => M - (intOf v8).toNat)
  case atStart => exact ⟨0, Nat.zero_le _, rfl, H0⟩
  case round =>
    obtain ⟨i, hi, rfl, HI⟩ := hrel
    by_cases hlt : i < M
    · have H1 := Aside0.mk (HC.out i wr hlt HI.out)
      have hltz : (i : Int) < (M : Int) := by omega
      go_wp2_with (go_at_fn g; refine H1.out.mono ?_; rintro e w' ⟨rfl, hi'⟩)
      go_roundw
      case rel => exact ⟨i + 1, by omega, by go_num, ⟨hi'⟩⟩
      case measure => simp [intOf]; omega
    · obtain rfl : i = M := by omega
      go_wp2
      exact bodyPost_end (v := .tuple #[]) (by simp [results, Try.results171]) rfl ⟨rfl, HI.out⟩


end Go.Proofs.Ytfnbcbjgjoobpaa.Print
