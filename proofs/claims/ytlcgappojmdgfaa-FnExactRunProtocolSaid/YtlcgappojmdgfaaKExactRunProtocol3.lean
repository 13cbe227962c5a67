/- Functions of the given program as plain Lean functions, with proofs that their calls compute them, or lemmas on these. Laid by a program of this repo for the seat Ytlcgappojmdgfaa; Lean checks it. -/
import Derived.Test.YtlcgappojmdgfaaKExactRunProtocol0
import Derived.Test.YtlcgappojmdgfaaKExactRunProtocol2
import Derived.Test.YtlcgappojmdgfaaM9
namespace Go.Proofs.Ytlcgappojmdgfaa.Print
open Go.RowKit Go.Proofs.YtlcgappojmdgfaaW.PrintWords Go.Proofs.YtlcgappojmdgfaaW.PrintLast Go.Proofs.YtlcgappojmdgfaaW.PrintMore
attribute [local go_sem] max2_int min2_int max_two min_two max_three min_three max_four min_four   -- for this text's walks alone
set_option linter.unusedVariables false
set_option linter.unusedSimpArgs false

--OWNPART
/-! ### strings_IndexByte: function 83 -/
--IMPORT M9
open Go.Proofs.Ytlcgappojmdgfaa.M
theorem strings_IndexByte.call (s : ByteArray) (c : Int) (w : World) :
    Calls Try.prog 83 #[.string s, .int .u8 c] w fun e w' => e = .returned (.int .i64 (Go.Lib.indexByte s.data.toList c.toNat.toUInt8)) ∧ w' = w := by
  have HC := Aside0.mk (stringslite_IndexByte.call s c w)
  go_enter Try.func83, Try.ntmps83
  go_wp2_with (first | (go_at_call 95; (with_reducible refine HC.out.mono ?_); rintro e w1 ⟨rfl, rfl⟩))
  go_ret
  exact ⟨rfl, rfl⟩
/-- the place of a byte among the hexadecimal digits -/
theorem strings_IndexByte.hex (c : Int) (h0 : 0 ≤ c) (h1 : c ≤ 255) (w : World) :
    Calls Try.prog 83 #[.string ⟨#[48, 49, 50, 51, 52, 53, 54, 55, 56, 57, 97, 98, 99, 100, 101, 102]⟩, .int .u8 c] w fun e w' => e = .returned (.int .i64 (hexV c)) ∧ w' = w := by
  have h := strings_IndexByte.call ⟨#[48, 49, 50, 51, 52, 53, 54, 55, 56, 57, 97, 98, 99, 100, 101, 102]⟩ c w
  obtain ⟨n, rfl⟩ := nat_of h0
  rw [Int.toNat_natCast] at h
  have e := hex_index n (by omega)
  rw [← e]
  exact h


end Go.Proofs.Ytlcgappojmdgfaa.Print
