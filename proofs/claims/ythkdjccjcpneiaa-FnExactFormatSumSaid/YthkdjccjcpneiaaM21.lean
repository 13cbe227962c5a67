/- Texts of terms: no program in sight. -/
import Derived.Test.YthkdjccjcpneiaaM5
import Derived.Lib.Join
import Derived.Laws.Concat
import Derived.Laws.BytesArg
namespace Go.Proofs.Ythkdjccjcpneiaa.M
open Go Go.RowKit Go.Proofs.YthkdjccjcpneiaaW.PrintWords Go.Proofs.YthkdjccjcpneiaaW.PrintLast
set_option linter.unusedVariables false
set_option linter.unusedSimpArgs false

/-- a text out of its bytes -/
def mkB (l : List UInt8) : ByteArray := ⟨l.toArray⟩
theorem mkB_append (a b : List UInt8) : mkB a ++ mkB b = mkB (a ++ b) := ByteArray.mk_append_mk a b
theorem mkB_size (a : List UInt8) : (mkB a).size = a.length := by simp [mkB, ByteArray.size]
theorem mkB_data (a : List UInt8) : (mkB a).data.toList = a := by simp [mkB]
theorem mkB_nil (a : List UInt8) : ((mkB a).toList = ([] : List UInt8)) ↔ a = [] := by
  have e : (mkB a).toList = a := by rw [ByteArray.toList_eq]; simp [mkB]
  rw [e]
theorem mkB_nums (a : List UInt8) : strOfNums (a.map fun b => (b.toNat : Int)) = mkB a := by
  unfold strOfNums mkB
  congr 1
  rw [List.map_map]
  congr 1
  have : (fun n : Int => UInt8.ofNat n.toNat) ∘ (fun b : UInt8 => (b.toNat : Int)) = id := by funext b; simp
  rw [this, List.map_id]
/-- the letters of a term below variable i -/
def twL (m u : Nat) : Nat → List UInt8
  | 0 => []
  | i + 1 => if m.testBit i = true then (if u.testBit i = true then twL m u i ++ [UInt8.ofNat (97 + i)] else twL m u i ++ [33] ++ [UInt8.ofNat (97 + i)]) else twL m u i
theorem twL_len (m u : Nat) : ∀ i, (twL m u i).length ≤ 2 * i
  | 0 => by simp [twL]
  | i + 1 => by
    have := twL_len m u i
    rw [twL]
    split
    · split <;> simp <;> omega
    · omega
/-- a term's text -/
def tText (n m u : Nat) : List UInt8 := if twL m u n = [] then [49] else twL m u n
theorem tText_ne (n m u : Nat) : tText n m u ≠ [] := by
  unfold tText
  split
  · simp
  · assumption
theorem tText_len (n m u : Nat) : (tText n m u).length ≤ 2 * n + 1 := by
  unfold tText
  split
  · simp
  · have := twL_len m u n; omega
theorem letter_at : ∀ i, i < 5 → (⟨#[97, 98, 99, 100, 101]⟩ : ByteArray).extract i (i + 1) = mkB [UInt8.ofNat (97 + i)] := by
  intro i hi
  rcases (by omega : i = 0 ∨ i = 1 ∨ i = 2 ∨ i = 3 ∨ i = 4) with rfl | rfl | rfl | rfl | rfl <;> (apply ByteArray.ext; rfl)
theorem letter_num : ∀ i, i < 5 → ((97 + (((i : Nat) : Int) % 256)) % 256) = ((UInt8.ofNat (97 + i)).toNat : Int) := by
  intro i hi
  rcases (by omega : i = 0 ∨ i = 1 ∨ i = 2 ∨ i = 3 ∨ i = 4) with rfl | rfl | rfl | rfl | rfl <;> rfl
/-- the words behind i of them, with a sign between them -/
def joinUp (ws : List (List UInt8)) (i : Nat) : List UInt8 := Go.Lib.join (ws.take i) [124]
theorem joinUp_one {ws : List (List UInt8)} {y : List UInt8} (h : ws[0]? = some y) : joinUp ws 1 = y := by
  unfold joinUp
  rw [List.take_add_one, h]
  simp [Go.Lib.join_one]
theorem joinUp_succ {ws : List (List UInt8)} {y : List UInt8} {i : Nat} (hi : 0 < i) (h : ws[i]? = some y) : joinUp ws (i + 1) = joinUp ws i ++ [124] ++ y := by
  cases ws with
  | nil => simp at h
  | cons x r =>
    obtain ⟨j, rfl⟩ : ∃ j, i = j + 1 := ⟨i - 1, by omega⟩
    unfold joinUp
    rw [List.take_succ_cons, List.take_succ_cons, Go.Lib.join_cons, Go.Lib.join_cons, Go.Lib.joinTail_take_succ [124] r j y (by simpa using h)]
    simp [List.append_assoc]
theorem joinUp_len {ws : List (List UInt8)} (h : ∀ y ∈ ws, y.length ≤ 11) : ∀ i, i ≤ ws.length → (joinUp ws i).length ≤ 12 * i
  | 0, _ => by simp [joinUp, Go.Lib.join_nil]
  | i + 1, hi => by
    have ih := joinUp_len h i (by omega)
    have hx : ws[i]? = some (ws[i]'(by omega)) := List.getElem?_eq_getElem (by omega)
    have hy := h _ (List.getElem_mem (show i < ws.length by omega))
    by_cases h0 : i = 0
    · subst h0
      rw [joinUp_one hx]; omega
    · rw [joinUp_succ (by omega) hx, List.length_append, List.length_append]
      simp only [List.length_cons, List.length_nil]
      omega
theorem joinUp_ne {ws : List (List UInt8)} (h : ∀ y ∈ ws, y ≠ []) {i : Nat} (hi : 0 < i) (hl : i ≤ ws.length) : joinUp ws i ≠ [] := by
  obtain ⟨j, rfl⟩ : ∃ j, i = j + 1 := ⟨i - 1, by omega⟩
  have hx : ws[j]? = some (ws[j]'(by omega)) := List.getElem?_eq_getElem (by omega)
  have hy := h _ (List.getElem_mem (show j < ws.length by omega))
  by_cases h0 : j = 0
  · subst h0
    rw [joinUp_one hx]; exact hy
  · rw [joinUp_succ (by omega) hx]; simp
theorem joinUp_all (ws : List (List UInt8)) : joinUp ws ws.length = Go.Lib.join ws [124] := by unfold joinUp; rw [List.take_length]
end Go.Proofs.Ythkdjccjcpneiaa.M
