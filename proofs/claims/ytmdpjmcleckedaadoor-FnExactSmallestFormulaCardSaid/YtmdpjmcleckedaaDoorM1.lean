/- How many ones a number of 32 bits has, by the sums of parts of words: no program in sight. -/
import Derived.Test.YtmdpjmcleckedaaDoorM0
import Derived.Laws.BitsAllLaws
namespace Go.Proofs.YtmdpjmcleckedaaDoor.M
open Go.RowKit Go.Proofs.YtmdpjmcleckedaaDoorW.PrintWords Go.Proofs.YtmdpjmcleckedaaDoorW.PrintLast
set_option linter.unusedVariables false
set_option linter.unusedSimpArgs false

theorem tb_cat {c y : Nat} (hc : c < 256) (j : Nat) : (c + 256 * y).testBit j = if j < 8 then c.testBit j else y.testBit (j - 8) := by
  rw [Nat.add_comm]; exact Nat.testBit_two_pow_mul_add (i := 8) y hc j
theorem and_cat {c d y z : Nat} (hc : c < 256) (hd : d < 256) : (c + 256 * y) &&& (d + 256 * z) = (c &&& d) + 256 * (y &&& z) := by
  have h : c &&& d < 256 := Nat.lt_of_le_of_lt Nat.and_le_left hc
  apply Nat.eq_of_testBit_eq; intro i
  rw [Nat.testBit_and, tb_cat hc, tb_cat hd, tb_cat h]
  split <;> rw [Nat.testBit_and]
def repB (d : Nat) : Nat → Nat
  | 0 => 0
  | k + 1 => d + 256 * repB d k
def sA (k x : Nat) : Nat := (x / 2 &&& repB 85 k) + (x &&& repB 85 k)
def sB (k x : Nat) : Nat := (x / 4 &&& repB 51 k) + (x &&& repB 51 k)
def sC (k x : Nat) : Nat := (x / 16 + x) &&& repB 15 k
def bA (c : Nat) : Nat := (c / 2 &&& 85) + (c &&& 85)
def bB (c : Nat) : Nat := (c / 4 &&& 51) + (c &&& 51)
def bP (c : Nat) : Nat := cnt c.testBit 8
theorem bA_lt : ∀ c, c < 256 → bA c < 256 := allB_dec (by decide +kernel)
theorem bB_lt : ∀ c, c < 256 → bB (bA c) ≤ 68 ∧ bB (bA c) % 16 ≤ 4 ∧ (bB (bA c) / 16 + bB (bA c)) % 16 = bP c ∧ bP c ≤ 8 := allB_dec (by decide +kernel)
theorem hA1 : ∀ c, c < 256 → ∀ t, t < 2 → (c / 2 + 128 * t) &&& 85 = c / 2 &&& 85 := allB_dec2 (by decide +kernel)
theorem hB1 : ∀ c, c < 256 → ∀ t, t < 4 → (c / 4 + 64 * t) &&& 51 = c / 4 &&& 51 := allB_dec2 (by decide +kernel)
theorem sA_step {c y : Nat} (hc : c < 256) (k : Nat) : sA (k + 1) (c + 256 * y) = bA c + 256 * sA k y := by
  have e : (c + 256 * y) / 2 = (c / 2 + 128 * (y % 2)) + 256 * (y / 2) := by omega
  simp only [sA, repB, bA]
  rw [e, and_cat (by omega) (by omega), and_cat hc (by omega), hA1 c hc _ (by omega)]
  omega
theorem sB_step {c y : Nat} (hc : c < 256) (k : Nat) : sB (k + 1) (c + 256 * y) = bB c + 256 * sB k y := by
  have e : (c + 256 * y) / 4 = (c / 4 + 64 * (y % 4)) + 256 * (y / 4) := by omega
  simp only [sB, repB, bB]
  rw [e, and_cat (by omega) (by omega), and_cat hc (by omega), hB1 c hc _ (by omega)]
  omega
theorem sC_step {c y : Nat} (hc : c ≤ 68) (hy : y % 16 ≤ 4) (k : Nat) : sC (k + 1) (c + 256 * y) = (c / 16 + c) % 16 + 256 * sC k y := by
  have e : (c + 256 * y) / 16 + (c + 256 * y) = (c / 16 + 16 * (y % 16) + c) + 256 * (y / 16 + y) := by omega
  simp only [sC, repB]
  rw [e, and_cat (by omega) (by omega)]
  have : (c / 16 + 16 * (y % 16) + c) &&& 15 = (c / 16 + c) % 16 := by
    rw [show 15 = 2 ^ 4 - 1 from rfl, Nat.and_two_pow_sub_one_eq_mod]; omega
  rw [this]
theorem s0 (k : Nat) : sA k 0 = 0 ∧ sB k 0 = 0 ∧ sC k 0 = 0 := by simp [sA, sB, sC]
/-- the bytes' own counts, side by side -/
theorem swar {c0 c1 c2 c3 : Nat} (h0 : c0 < 256) (h1 : c1 < 256) (h2 : c2 < 256) (h3 : c3 < 256) :
    sC 8 (sB 8 (sA 8 (c0 + 256 * (c1 + 256 * (c2 + 256 * (c3 + 256 * 0)))))) = bP c0 + 256 * (bP c1 + 256 * (bP c2 + 256 * (bP c3 + 256 * 0))) := by
  rw [sA_step h0, sA_step h1, sA_step h2, sA_step h3, (s0 4).1, sB_step (bA_lt _ h0), sB_step (bA_lt _ h1), sB_step (bA_lt _ h2), sB_step (bA_lt _ h3), (s0 4).2.1]
  obtain ⟨a0, b0, e0, _⟩ := bB_lt c0 h0
  obtain ⟨a1, b1, e1, _⟩ := bB_lt c1 h1
  obtain ⟨a2, b2, e2, _⟩ := bB_lt c2 h2
  obtain ⟨a3, b3, e3, _⟩ := bB_lt c3 h3
  rw [sC_step a0 (by omega), sC_step a1 (by omega), sC_step a2 (by omega), sC_step a3 (by omega), (s0 4).2.2, e0, e1, e2, e3]
theorem cnt_cat {c y : Nat} (hc : c < 256) : ∀ m, cnt (c + 256 * y).testBit (8 + m) = bP c + cnt y.testBit m
  | 0 => by rw [Nat.add_zero, cnt, Nat.add_zero]; exact cnt_congr (fun i hi => by rw [tb_cat hc, if_pos hi])
  | m + 1 => by
    rw [← Nat.add_assoc, cnt, cnt_cat hc m, cnt, tb_cat hc, if_neg (by omega), show 8 + m - 8 = m by omega]; omega
/-- how many ones -/
def pc (w : Nat) : Nat := cnt w.testBit 32
theorem pc_bytes {c0 c1 c2 c3 : Nat} (h0 : c0 < 256) (h1 : c1 < 256) (h2 : c2 < 256) (h3 : c3 < 256) :
    pc (c0 + 256 * (c1 + 256 * (c2 + 256 * (c3 + 256 * 0)))) = bP c0 + bP c1 + bP c2 + bP c3 := by
  unfold pc
  rw [show 32 = 8 + (8 + (8 + (8 + 0))) from rfl, cnt_cat h0, cnt_cat h1, cnt_cat h2, cnt_cat h3]; simp [cnt]; omega
theorem bytes_of {w : Nat} (h : w < 2 ^ 32) : ∃ c0 c1 c2 c3 : Nat, c0 < 256 ∧ c1 < 256 ∧ c2 < 256 ∧ c3 < 256 ∧ w = c0 + 256 * (c1 + 256 * (c2 + 256 * (c3 + 256 * 0))) :=
  ⟨w % 256, w / 256 % 256, w / 65536 % 256, w / 16777216, by omega, by omega, by omega, by omega, by omega⟩
theorem cnt_zero : ∀ m, cnt (0 : Nat).testBit m = 0
  | 0 => rfl
  | m + 1 => by rw [cnt, cnt_zero m, Nat.zero_testBit]; rfl
theorem cnt_head (g : Nat → Bool) : ∀ m, cnt g (m + 1) = (g 0).toNat + cnt (fun i => g (i + 1)) m
  | 0 => by simp [cnt]
  | m + 1 => by rw [cnt, cnt_head g m, cnt]; omega
theorem cnt_half (w m : Nat) : cnt w.testBit (m + 1) = w % 2 + cnt (w / 2).testBit m := by
  rw [cnt_head]
  have e : (w.testBit 0).toNat = w % 2 := by rw [Nat.toNat_testBit]; simp
  rw [e]
  congr 1
  exact cnt_congr (fun i _ => by rw [Nat.testBit_succ])
theorem pc_of_lt {w m : Nat} (h : w < 2 ^ m) : ∀ d, cnt w.testBit (m + d) = cnt w.testBit m
  | 0 => rfl
  | d + 1 => by rw [← Nat.add_assoc, cnt, pc_of_lt h d, testBit_of_ge h (by omega)]; rfl
theorem pc_le (w : Nat) : pc w ≤ 32 := cnt_le _ _

theorem u64n {n : Nat} (h : n < 2 ^ 64) : Go.IntKind.u64.wrap (n : Int) = (n : Int) := by rw [Go.IntKind.wrap_u64]; omega
theorem u64and {a b : Nat} (ha : a < 2 ^ 64) (hb : b < 2 ^ 64) : Go.bits .and .u64 (a : Int) (b : Int) = ((a &&& b : Nat) : Int) := Go.u64_and_nat a b ha hb
theorem sA_eq {x : Nat} (hx : x < 2 ^ 32) : Go.IntKind.u64.wrap (Go.bits .and .u64 ((x : Int) / 2) 6148914691236517205 + Go.bits .and .u64 (x : Int) 6148914691236517205) = ((sA 8 x : Nat) : Int) := by
  have e : ((x : Int) / 2) = ((x / 2 : Nat) : Int) := by omega
  have e2 : (6148914691236517205 : Int) = ((repB 85 8 : Nat) : Int) := by decide
  have l1 : x / 2 &&& repB 85 8 ≤ x / 2 := Nat.and_le_left
  have l2 : x &&& repB 85 8 ≤ x := Nat.and_le_left
  rw [e, e2, u64and (by omega) (by decide), u64and (by omega) (by decide), ← Int.natCast_add, u64n (by omega)]; rfl
theorem sB_eq {x : Nat} (hx : x < 2 ^ 33) : Go.IntKind.u64.wrap (Go.bits .and .u64 ((x : Int) / 4) 3689348814741910323 + Go.bits .and .u64 (x : Int) 3689348814741910323) = ((sB 8 x : Nat) : Int) := by
  have e : ((x : Int) / 4) = ((x / 4 : Nat) : Int) := by omega
  have e2 : (3689348814741910323 : Int) = ((repB 51 8 : Nat) : Int) := by decide
  have l1 : x / 4 &&& repB 51 8 ≤ x / 4 := Nat.and_le_left
  have l2 : x &&& repB 51 8 ≤ x := Nat.and_le_left
  rw [e, e2, u64and (by omega) (by decide), u64and (by omega) (by decide), ← Int.natCast_add, u64n (by omega)]; rfl
theorem sC_eq {x : Nat} (hx : x < 2 ^ 34) : Go.bits .and .u64 (Go.IntKind.u64.wrap ((x : Int) / 16 + (x : Int))) 1085102592571150095 = ((sC 8 x : Nat) : Int) := by
  have e : ((x : Int) / 16) = ((x / 16 : Nat) : Int) := by omega
  have e2 : (1085102592571150095 : Int) = ((repB 15 8 : Nat) : Int) := by decide
  rw [e, e2, ← Int.natCast_add, u64n (by omega), u64and (by omega) (by decide)]; rfl
theorem sA_lt {x : Nat} (hx : x < 2 ^ 32) : sA 8 x < 2 ^ 33 := by
  have l1 : x / 2 &&& repB 85 8 ≤ x / 2 := Nat.and_le_left
  have l2 : x &&& repB 85 8 ≤ x := Nat.and_le_left
  unfold sA; omega
theorem sB_lt {x : Nat} (hx : x < 2 ^ 33) : sB 8 x < 2 ^ 34 := by
  have l1 : x / 4 &&& repB 51 8 ≤ x / 4 := Nat.and_le_left
  have l2 : x &&& repB 51 8 ≤ x := Nat.and_le_left
  unfold sB; omega
theorem last_sums {p0 p1 p2 p3 : Nat} (h0 : p0 ≤ 8) (h1 : p1 ≤ 8) (h2 : p2 ≤ 8) (h3 : p3 ≤ 8) (T U V : Nat) (hT : T = p0 + 256 * (p1 + 256 * (p2 + 256 * (p3 + 256 * 0)))) (hU : U = T + T / 256) (hV : V = U + U / 65536) :
    T < 2 ^ 32 ∧ U < 2 ^ 33 ∧ V < 2 ^ 34 ∧ (V + V / 4294967296) % 128 = p0 + p1 + p2 + p3 := by
  have bT : T < 2 ^ 32 := by omega
  have a1 : T / 256 = p1 + 256 * p2 + 65536 * p3 := by omega
  have a2 : U = (p0 + p1) + 256 * (p1 + p2) + 65536 * (p2 + p3) + 16777216 * p3 := by omega
  have bU : U < 2 ^ 33 := by omega
  clear hU a1 hT
  have a3 : U / 65536 = (p2 + p3) + 256 * p3 := by omega
  have a4 : V = (p0 + p1 + p2 + p3) + 256 * (p1 + p2 + p3) + 65536 * (p2 + p3) + 16777216 * p3 := by omega
  clear a3 hV
  have a5 : V / 4294967296 = 0 := by omega
  exact ⟨bT, bU, by omega, by omega⟩
theorem uw1 {T U : Nat} (hU : U = T + T / 256) (h : T < 2 ^ 32) : Go.IntKind.u64.wrap ((T : Int) + (T : Int) / 256) = (U : Int) := by rw [Go.IntKind.wrap_u64]; omega
theorem uw2 {T U : Nat} (hU : U = T + T / 65536) (h : T < 2 ^ 33) : Go.IntKind.u64.wrap ((T : Int) + (T : Int) / 65536) = (U : Int) := by rw [Go.IntKind.wrap_u64]; omega
theorem uw3 {V : Nat} (h : V < 2 ^ 34) : Go.IntKind.u64.wrap ((V : Int) + (V : Int) / 4294967296) = ((V + V / 4294967296 : Nat) : Int) := by rw [Go.IntKind.wrap_u64]; omega
theorem uw4 {X : Nat} (h : X < 2 ^ 36) : Go.bits .and .i64 (wrap64 (X : Int)) 127 = ((X % 128 : Nat) : Int) := by
  have e127 : (127 : Int) = ((127 : Nat) : Int) := rfl
  rw [w64 (by omega) (by omega), e127, and_nat (by omega) (by decide)]
  congr 1
  exact Nat.and_two_pow_sub_one_eq_mod X 7
/-- the last sums -/
theorem swar_end {w T : Nat} (h : w < 2 ^ 32) (hT : T = sC 8 (sB 8 (sA 8 w))) (r : Int)
    (hr : r = Go.bits .and .i64 (wrap64 (Go.IntKind.u64.wrap (Go.IntKind.u64.wrap (Go.IntKind.u64.wrap ((T : Int) + (T : Int) / 256) + Go.IntKind.u64.wrap ((T : Int) + (T : Int) / 256) / 65536) + Go.IntKind.u64.wrap (Go.IntKind.u64.wrap ((T : Int) + (T : Int) / 256) + Go.IntKind.u64.wrap ((T : Int) + (T : Int) / 256) / 65536) / 4294967296))) 127) : r = ((pc w : Nat) : Int) := by
  obtain ⟨c0, c1, c2, c3, h0, h1, h2, h3, rfl⟩ := bytes_of h
  rw [swar h0 h1 h2 h3] at hT
  rw [pc_bytes h0 h1 h2 h3]
  obtain ⟨_, _, _, p0⟩ := bB_lt c0 h0
  obtain ⟨_, _, _, p1⟩ := bB_lt c1 h1
  obtain ⟨_, _, _, p2⟩ := bB_lt c2 h2
  obtain ⟨_, _, _, p3⟩ := bB_lt c3 h3
  obtain ⟨U, hU⟩ : ∃ U, U = T + T / 256 := ⟨_, rfl⟩
  obtain ⟨V, hV⟩ : ∃ V, V = U + U / 65536 := ⟨_, rfl⟩
  obtain ⟨b1, b2, b3, b4⟩ := last_sums p0 p1 p2 p3 T U V hT hU hV
  rw [uw1 hU b1, uw2 hV b2, uw3 b3] at hr
  have b5 : V + V / 4294967296 < 2 ^ 36 := by clear hr; omega
  rw [uw4 b5, b4] at hr
  exact hr

end Go.Proofs.YtmdpjmcleckedaaDoor.M
