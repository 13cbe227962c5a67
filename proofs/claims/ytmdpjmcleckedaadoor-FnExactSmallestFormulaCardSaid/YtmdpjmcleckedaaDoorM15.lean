/- The least sizes of formulas of at most three variables, told by a table, and what a search that goes by sizes keeps: no program in sight. -/
import Derived.Test.YtmdpjmcleckedaaDoorM0
namespace Go.Proofs.YtmdpjmcleckedaaDoor.M
open Go.RowKit Go.Proofs.YtmdpjmcleckedaaDoorW.PrintWords Go.Proofs.YtmdpjmcleckedaaDoorW.PrintLast
set_option linter.unusedVariables false
set_option linter.unusedSimpArgs false

/-- the sizes of all words, four bits each -/
def szP (n : Nat) : Nat := match n with
  | 0 => 0x0
  | 1 => 0x110
  | 2 => 0x221214224121220
  | _ => 0x33232533523233132535385655454633523655458355643233154635643455235652354585635432354316356454352585656458a68685535434352685555633655558625343453558686a854656585253454653613453234536585453256532554346536451332346553854556325336454556583535231332325335232330
/-- of a word of size at least 2: the first part of a formula, eight bits each -/
def szF (n : Nat) : Nat := match n with
  | 0 => 0x0
  | 1 => 0x0
  | 2 => 0xa05000a00080a050e0005000a0500
  | _ => 0xaa55ccaaaaf0f055f055f033f0f000aaaaccccaaaa888822eea0eec0eeeff055cc55cc88fa888855445544c002ddf0cccccc00c0fafbccc002f5ccc0c0c0ccaaaa88fcaaaa88883322a0bf3322bbf0aaaaa0a0aa00a8aaa0aea0a0a0aaa0aa0f8888bf888a8888118280dd80bbbbf00f8888cc88aa88aa80eeafcccfaabbaa552255fc33fa110855225544332211f00fee442022eaebee22eeefeeefee77f0550a55500afa08fa55fe005550fa55550fee44ccfbfaddcc44ee5555cfee5555330c0cfc33fa08fc33fef5fc003333330fee20fc22aabbaa22eeafee33aa33aa0ffeddfcbbfabbbb1177555533335555000f0fcc0faa0faa0f0f555533aa5500
/-- and the other part -/
def szG (n : Nat) : Nat := match n with
  | 0 => 0x0
  | 1 => 0x0
  | 2 => 0xc0c000300010c0307000c00030300
  | _ => 0xfcfcf0f3f09988f366f044f0221100cfcca5a0c3c0e1e0c5f745f523f3f1eecf5acc5053df5150c3d2c0d013d0f3dd0f0a05000bcfcdfa07c4cff5030201f03f3c35bf33303130a5b415f4a0b0f5bb0f0c0d0c030001fc07f7050403f301f0991e15dc13101110871415b413d2d599880e05af03cf01cc0787d5a5b3c3c5c03f5c3c7f5a7f78703354303050507077667f2d4c4b7f7d78457775757373e1660f540c0c515f515d035700fc0357f3f0445f0d5f4f4f4b5a0357cfcc7353c3c00f32313f0a3f313b05373f3700faf5f0223f0d2f0b3f2d3c05377535af33a530111f3f1f5f1f5d5c071e3f3c5f5a333000eedd0fbb0f990c77660f0c0f030300
def szT (n w : Nat) : Nat := szP n / 2 ^ (4 * w) % 16
def szW1 (n w : Nat) : Nat := szF n / 2 ^ (8 * w) % 256
def szW2 (n w : Nat) : Nat := szG n / 2 ^ (8 * w) % 256
/-- the word of variable i -/
def szVar (n i : Nat) : Nat := prefW (fun x => x.testBit i) (2 ^ n)
/-- the number of words -/
def szN (n : Nat) : Nat := 2 ^ 2 ^ n
theorem allB4 {p : Nat → Bool} (h : allB 4 p = true) {n : Nat} (hn : n ≤ 3) : p n = true := allB_of h n (by omega)

def szC1 : Bool := allB 4 fun n => allB (szN n) fun w => Nat.ble (szT n w) 10 && (Nat.beq (szT n w) 0 == (Nat.beq w 0 || Nat.beq (w + 1) (szN n)))
theorem szC1_ok : szC1 = true := by decide +kernel
theorem szT_le {n w : Nat} (hn : n ≤ 3) (hw : w < szN n) : szT n w ≤ 10 := by
  have h := allB_of (allB4 szC1_ok hn) w hw
  rw [Bool.and_eq_true] at h
  exact Nat.le_of_ble_eq_true h.1
theorem szT_zero {n w : Nat} (hn : n ≤ 3) (hw : w < szN n) : szT n w = 0 ↔ w = 0 ∨ w + 1 = szN n := by
  have h := allB_of (allB4 szC1_ok hn) w hw
  rw [Bool.and_eq_true] at h
  have h2 := eq_of_beq h.2
  constructor
  · intro e
    rw [e] at h2
    have h3 : (Nat.beq w 0 || Nat.beq (w + 1) (szN n)) = true := h2.symm
    rw [Bool.or_eq_true] at h3
    exact h3.imp Nat.eq_of_beq_eq_true Nat.eq_of_beq_eq_true
  · intro e
    have h3 : (Nat.beq w 0 || Nat.beq (w + 1) (szN n)) = true := by
      rw [Bool.or_eq_true]
      exact e.imp (fun e => by rw [e]; rfl) (fun e => by rw [e]; exact Nat.beq_refl _)
    rw [h3] at h2
    exact Nat.eq_of_beq_eq_true h2

def szC2 : Bool := allB 4 fun n => allB (szN n) fun f => Nat.beq (szT n f) 0 || allB (szN n) fun g => Nat.beq (szT n g) 0 || (Nat.ble (szT n (Nat.land f g)) (szT n f + szT n g) && Nat.ble (szT n (Nat.lor f g)) (szT n f + szT n g))
theorem szC2_ok : szC2 = true := by decide +kernel
theorem szT_pair {n f g : Nat} (hn : n ≤ 3) (hf : f < szN n) (hg : g < szN n) (h1 : szT n f ≠ 0) (h2 : szT n g ≠ 0) : szT n (f &&& g) ≤ szT n f + szT n g ∧ szT n (f ||| g) ≤ szT n f + szT n g := by
  have h := allB_of (allB4 szC2_ok hn) f hf
  rw [Bool.or_eq_true] at h
  rcases h with h | h
  · exact absurd (Nat.eq_of_beq_eq_true h) h1
  have h := allB_of h g hg
  rw [Bool.or_eq_true] at h
  rcases h with h | h
  · exact absurd (Nat.eq_of_beq_eq_true h) h2
  rw [Bool.and_eq_true] at h
  exact ⟨Nat.le_of_ble_eq_true h.1, Nat.le_of_ble_eq_true h.2⟩

def szC3 : Bool := allB 4 fun n => allB (szN n) fun w => Nat.ble (szT n w) 1 || (Nat.blt (szW1 n w) (szN n) && Nat.blt (szW2 n w) (szN n) && Nat.ble 1 (szT n (szW1 n w)) && Nat.ble (szT n (szW1 n w)) (szT n (szW2 n w)) && Nat.beq (szT n (szW1 n w) + szT n (szW2 n w)) (szT n w) && (Nat.beq (Nat.land (szW1 n w) (szW2 n w)) w || Nat.beq (Nat.lor (szW1 n w) (szW2 n w)) w))
theorem szC3_ok : szC3 = true := by decide +kernel
theorem szT_wit {n w : Nat} (hn : n ≤ 3) (hw : w < szN n) (h2 : 2 ≤ szT n w) : ∃ f g, f < szN n ∧ g < szN n ∧ 1 ≤ szT n f ∧ szT n f ≤ szT n g ∧ szT n f + szT n g = szT n w ∧ (f &&& g = w ∨ f ||| g = w) := by
  have h := allB_of (allB4 szC3_ok hn) w hw
  rw [Bool.or_eq_true] at h
  rcases h with h | h
  · have := Nat.le_of_ble_eq_true h; omega
  simp only [Bool.and_eq_true, Bool.or_eq_true] at h
  obtain ⟨⟨⟨⟨⟨a1, a2⟩, a3⟩, a4⟩, a5⟩, a6⟩ := h
  exact ⟨szW1 n w, szW2 n w, Nat.le_of_ble_eq_true a1, Nat.le_of_ble_eq_true a2, Nat.le_of_ble_eq_true a3, Nat.le_of_ble_eq_true a4, Nat.eq_of_beq_eq_true a5, a6.imp Nat.eq_of_beq_eq_true Nat.eq_of_beq_eq_true⟩

/-- is it a letter's word, or one's of a letter with an exclamation mark: of the first i letters -/
def szIsLet (n : Nat) (w : Nat) : Nat → Bool
  | 0 => false
  | i + 1 => szIsLet n w i || Nat.beq w (szVar n i) || Nat.beq (w + szVar n i + 1) (szN n)
def szC4 : Bool := allB 4 fun n => allB (szN n) fun w => Nat.beq (szT n w) 1 == szIsLet n w n
theorem szC4_ok : szC4 = true := by decide +kernel
theorem szT_one {n w : Nat} (hn : n ≤ 3) (hw : w < szN n) : szT n w = 1 ↔ szIsLet n w n = true := by
  have h := eq_of_beq (allB_of (allB4 szC4_ok hn) w hw)
  rw [← h]
  exact ⟨fun e => by rw [e]; rfl, Nat.eq_of_beq_eq_true⟩

/-! what a search that goes by sizes keeps -/
theorem szrd_set {out : List Int} {w : Nat} {v : Int} (hw : w < out.length) (x : Nat) : rd (out.set w v) (x : Int) = if x = w then v else rd out (x : Int) := by
  unfold rd
  rw [Int.toNat_natCast, List.getD_eq_getElem?_getD, List.getD_eq_getElem?_getD, List.getElem?_set]
  by_cases h : w = x
  · subst h; simp [hw]
  · rw [if_neg h, if_neg (fun e => h e.symm)]
theorem szcnt_drop {g g' : Nat → Bool} {w : Nat} (h1 : g w = true) (h2 : g' w = false) : ∀ {N : Nat}, w < N → (∀ i, i < N → i ≠ w → g' i = g i) → cnt g' N + 1 = cnt g N
  | 0, hw, _ => by omega
  | N + 1, hw, h => by
    rw [cnt, cnt]
    by_cases e : w = N
    · subst e
      rw [h1, h2, cnt_congr (g := g') (g' := g) (fun i hi => h i (by omega) (by omega))]
      rfl
    · rw [h N (by omega) (fun x => e x.symm)]
      have := szcnt_drop h1 h2 (N := N) (by omega) (fun i hi hne => h i (by omega) hne)
      omega
theorem szcnt_zero {g : Nat → Bool} : ∀ {N : Nat}, cnt g N = 0 → ∀ i, i < N → g i = false
  | 0, _, i, hi => by omega
  | N + 1, h, i, hi => by
    rw [cnt] at h
    by_cases e : i = N
    · subst e
      cases hg : g i with
      | false => rfl
      | true => rw [hg] at h; simp at h
    · exact szcnt_zero (N := N) (by omega) i (by omega)
/-- is the word still to be told -/
def szIs (n : Nat) (u : Int) (out : List Int) (w : Nat) : Bool := decide (szT n w ≠ 0) && (rd out (w : Int) == u)
/-- how many are -/
def szU (n : Nat) (u : Int) (out : List Int) : Nat := cnt (szIs n u out) (szN n)
/-- words of less than s letters have their sizes; the others are u still, or s and among the new ones -/
structure SzI (n s : Nat) (u : Int) (out fr : List Int) : Prop where
  len : out.length = szN n
  con : ∀ w, w < szN n → szT n w = 0 → rd out (w : Int) = 0
  low : ∀ w, w < szN n → 0 < szT n w → szT n w < s → rd out (w : Int) = (szT n w : Int)
  hig : ∀ w, w < szN n → s ≤ szT n w → rd out (w : Int) = u ∨ (rd out (w : Int) = (s : Int) ∧ szT n w = s ∧ (w : Int) ∈ fr)
  mem : ∀ x, x ∈ fr → ∃ w : Nat, w < szN n ∧ x = (w : Int) ∧ szT n w = s
  cou : fr.length + szU n u out ≤ szN n
theorem szIs_set {n : Nat} {u : Int} {out : List Int} {w s : Nat} (hw : w < out.length) (hu : (s : Int) ≠ u) (x : Nat) : szIs n u (out.set w (s : Int)) x = if x = w then false else szIs n u out x := by
  unfold szIs
  rw [szrd_set hw]
  by_cases e : x = w
  · rw [if_pos e, if_pos e, beq_eq_false_iff_ne.mpr hu, Bool.and_false]
  · rw [if_neg e, if_neg e]
theorem SzI.put {n s : Nat} {u : Int} {out fr : List Int} {w : Nat} (hu : u ≤ 0) (hs : 1 ≤ s) (h : SzI n s u out fr) (hw : w < szN n) (hT : szT n w ≤ s) (hi : szIs n u out w = true) :
    SzI n s u (out.set w (s : Int)) (fr ++ [(w : Int)]) ∧ szU n u (out.set w (s : Int)) + 1 = szU n u out ∧ fr.length < szN n := by
  have hne : (s : Int) ≠ u := by omega
  have hwl : w < out.length := by rw [h.len]; exact hw
  have hi' := hi
  rw [szIs, Bool.and_eq_true, decide_eq_true_eq] at hi'
  obtain ⟨h0, h1⟩ := hi'
  have h1 := eq_of_beq h1
  have hTs : szT n w = s := by
    rcases Nat.lt_or_ge (szT n w) s with hl | hl
    · have := h.low w hw (by omega) hl
      omega
    · omega
  have hcnt : szU n u (out.set w (s : Int)) + 1 = szU n u out := szcnt_drop hi (by rw [szIs_set hwl hne, if_pos rfl]) hw (fun i _ hiw => by rw [szIs_set hwl hne, if_neg hiw])
  have hc := h.cou
  refine ⟨⟨by rw [List.length_set]; exact h.len, fun x hx h0' => ?_, fun x hx h1' h2' => ?_, fun x hx h1' => ?_, fun x hx => ?_, ?_⟩, hcnt, by omega⟩
  · rw [szrd_set hwl, if_neg (fun e => h0 (by rw [← e]; exact h0'))]; exact h.con x hx h0'
  · rw [szrd_set hwl, if_neg (fun e => by subst e; omega)]; exact h.low x hx h1' h2'
  · rw [szrd_set hwl]
    by_cases e : x = w
    · rw [if_pos e]; subst e; exact .inr ⟨rfl, hTs, by simp⟩
    · rw [if_neg e]
      exact (h.hig x hx h1').imp id (fun ⟨a, b, c⟩ => ⟨a, b, List.mem_append_left _ c⟩)
  · rcases List.mem_append.mp hx with hx | hx
    · exact h.mem x hx
    · rw [List.mem_singleton] at hx
      exact ⟨w, hw, hx, hTs⟩
  · rw [List.length_append, List.length_singleton]; omega
theorem SzI.next {n s : Nat} {u : Int} {out fr : List Int} (h : SzI n s u out fr) (hs : 1 ≤ s) (hc : ∀ w, w < szN n → szT n w = s → szIs n u out w = false) : SzI n (s + 1) u out [] := by
  refine ⟨h.len, h.con, fun w hw h0 h1 => ?_, fun w hw h1 => ?_, fun x hx => (by cases hx), by have := h.cou; simp; omega⟩
  · by_cases e : szT n w = s
    · rcases h.hig w hw (by omega) with h2 | ⟨h2, _⟩
      · have h3 := hc w hw e
        rw [szIs, h2, beq_self_eq_true, Bool.and_true, decide_eq_false_iff_not] at h3
        omega
      · rw [h2, e]
    · exact h.low w hw h0 (by omega)
  · rcases h.hig w hw (by omega) with h2 | ⟨_, h2, _⟩
    · exact .inl h2
    · omega
/-- the list of all sizes -/
def szL (n : Nat) : List Int := (List.range (szN n)).map fun w => (szT n w : Int)
theorem szL_len (n : Nat) : (szL n).length = szN n := by simp [szL]
theorem rd_szL {n w : Nat} (hw : w < szN n) : rd (szL n) (w : Int) = (szT n w : Int) := by
  unfold rd szL
  rw [Int.toNat_natCast, List.getD_eq_getElem?_getD, List.getElem?_map, List.getElem?_range hw]; rfl
theorem szrd_ext {xs ys : List Int} (h : xs.length = ys.length) (h2 : ∀ w : Nat, w < xs.length → rd xs (w : Int) = rd ys (w : Int)) : xs = ys := by
  apply List.ext_getElem h
  intro i h3 h4
  have := h2 i h3
  unfold rd at this
  rw [Int.toNat_natCast, List.getD_eq_getElem?_getD, List.getD_eq_getElem?_getD, List.getElem?_eq_getElem h3, List.getElem?_eq_getElem h4] at this
  exact this
theorem SzI.full {n s : Nat} {u : Int} {out : List Int} (h : SzI n s u out []) (hno : ∀ w, w < szN n → szIs n u out w = false) : out = szL n := by
  refine szrd_ext (by rw [h.len, szL_len]) (fun w hw => ?_)
  rw [h.len] at hw
  rw [rd_szL hw]
  by_cases h0 : szT n w = 0
  · rw [h.con w hw h0, h0]; rfl
  · rcases Nat.lt_or_ge (szT n w) s with hl | hl
    · exact h.low w hw (by omega) hl
    · rcases h.hig w hw hl with h2 | ⟨_, _, h2⟩
      · have h3 := hno w hw
        rw [szIs, h2, beq_self_eq_true, Bool.and_true, decide_eq_false_iff_not] at h3
        exact absurd h0 h3
      · cases h2
theorem SzI.last {n s : Nat} {u : Int} {out fr : List Int} (hn : n ≤ 3) (h : SzI n s u out fr) (hs : 10 < s) (hu : u ≤ 0) : ∀ w, w < szN n → szIs n u out w = false := by
  intro w hw
  have h1 := szT_le hn hw
  by_cases h0 : szT n w = 0
  · rw [szIs, h0]; rfl
  · rw [szIs, h.low w hw (by omega) (by omega), beq_eq_false_iff_ne.mpr (by omega), Bool.and_false]
theorem SzI.neg {n s : Nat} {out fr : List Int} {w : Nat} (h : SzI n s (-1) out fr) (hw : w < szN n) : decide (rd out (w : Int) < 0) = szIs n (-1) out w := by
  by_cases h0 : szT n w = 0
  · rw [h.con w hw h0, szIs, h0]; rfl
  · have e : szIs n (-1) out w = (rd out (w : Int) == -1) := by rw [szIs, decide_eq_true h0, Bool.true_and]
    rw [e]
    rcases Nat.lt_or_ge (szT n w) s with hl | hl
    · rw [h.low w hw (by omega) hl, beq_eq_false_iff_ne.mpr (by omega)]
      exact decide_eq_false (by omega)
    · rcases h.hig w hw hl with h2 | ⟨h2, _⟩
      · rw [h2]; rfl
      · rw [h2, beq_eq_false_iff_ne.mpr (by omega)]
        exact decide_eq_false (by omega)
theorem SzI.nul {n s : Nat} {out fr : List Int} {w : Nat} (hn : n ≤ 3) (h : SzI n s 0 out fr) (hw : w < szN n) : (rd out (w : Int) = 0 ∧ 0 < w ∧ w + 1 < szN n) ↔ szIs n 0 out w = true := by
  rw [szIs, Bool.and_eq_true, decide_eq_true_eq, beq_iff_eq]
  have hz := szT_zero hn hw
  constructor
  · rintro ⟨h1, h2, h3⟩
    exact ⟨fun e => by rcases hz.mp e with e | e <;> omega, h1⟩
  · rintro ⟨h1, h2⟩
    refine ⟨h2, ?_, ?_⟩
    · rcases Nat.eq_zero_or_pos w with e | e
      · exact absurd (hz.mpr (.inl e)) h1
      · exact e
    · rcases Nat.lt_or_ge (w + 1) (szN n) with e | e
      · exact e
      · exact absurd (hz.mpr (.inr (by omega))) h1
/-- the words by their sizes, of those that have less than s letters -/
structure SzR (n s : Nat) (rows : List (List Int)) : Prop where
  len : rows.length = s
  mem : ∀ k x, k < s → x ∈ rows.getD k [] → 1 ≤ k ∧ ∃ w : Nat, w < szN n ∧ x = (w : Int) ∧ szT n w = k
  all : ∀ w, w < szN n → 1 ≤ szT n w → szT n w < s → (w : Int) ∈ rows.getD (szT n w) []
  row : ∀ k, k < s → (rows.getD k []).length ≤ szN n
theorem szgetD_snoc {α : Type} (xs : List α) (x d : α) (k : Nat) : (xs ++ [x]).getD k d = if k < xs.length then xs.getD k d else if k = xs.length then x else d := by
  rw [List.getD_eq_getElem?_getD, List.getD_eq_getElem?_getD]
  by_cases h : k < xs.length
  · rw [if_pos h, List.getElem?_append_left h]
  · rw [if_neg h, List.getElem?_append_right (by omega)]
    by_cases e : k = xs.length
    · rw [if_pos e, e]; simp
    · rw [if_neg e, List.getElem?_eq_none (by simp; omega)]; rfl
theorem SzR.push {n s : Nat} {u : Int} {out fr : List Int} {rows : List (List Int)} (hu : u ≤ 0) (hs : 1 ≤ s) (R : SzR n s rows) (h : SzI n s u out fr) (hc : ∀ w, w < szN n → szT n w = s → szIs n u out w = false) : SzR n (s + 1) (rows ++ [fr]) := by
  refine ⟨by simp [R.len], fun k x hk hx => ?_, fun w hw h1 h2 => ?_, fun k hk => ?_⟩
  · rw [szgetD_snoc, R.len] at hx
    by_cases e : k < s
    · rw [if_pos e] at hx; exact R.mem k x e hx
    · rw [if_neg e, if_pos (by omega)] at hx
      obtain ⟨w, a, b, c⟩ := h.mem x hx
      exact ⟨by omega, w, a, b, by omega⟩
  · rw [szgetD_snoc, R.len]
    by_cases e : szT n w < s
    · rw [if_pos e]; exact R.all w hw h1 e
    · rw [if_neg e, if_pos (by omega)]
      have h3 := hc w hw (by omega)
      rcases h.hig w hw (by omega) with h4 | ⟨_, _, h4⟩
      · rw [szIs, h4, beq_self_eq_true, Bool.and_true, decide_eq_false_iff_not] at h3
        omega
      · exact h4
  · rw [szgetD_snoc, R.len]
    by_cases e : k < s
    · rw [if_pos e]; exact R.row k e
    · rw [if_neg e, if_pos (by omega)]
      have := h.cou; omega
/-- both words of a pair have been told -/
def szCov (n : Nat) (u : Int) (out : List Int) (f g : Int) : Prop := ∀ p q : Nat, f = (p : Int) → g = (q : Int) → szIs n u out (p &&& q) = false ∧ szIs n u out (p ||| q) = false
theorem szCov_done {n s : Nat} {u : Int} {out : List Int} {rows : List (List Int)} (hn : n ≤ 3) (hs : 2 ≤ s) (R : SzR n s rows)
    (hc : ∀ a, 1 ≤ a → 2 * a ≤ s → ∀ f, f ∈ rows.getD a [] → ∀ g, g ∈ rows.getD (s - a) [] → szCov n u out f g) : ∀ w, w < szN n → szT n w = s → szIs n u out w = false := by
  intro w hw hT
  obtain ⟨f, g, hf, hg, h1, h2, h3, h4⟩ := szT_wit hn hw (by omega)
  have m1 := R.all f hf h1 (by omega)
  have m2 := R.all g hg (by omega) (by omega)
  rw [show szT n g = s - szT n f by omega] at m2
  obtain ⟨c1, c2⟩ := hc (szT n f) h1 (by omega) f m1 g m2 f g rfl rfl
  rcases h4 with h4 | h4
  · rw [h4] at c1; exact c1
  · rw [h4] at c2; exact c2
theorem szCov_set {n : Nat} {u : Int} {out : List Int} {w s : Nat} (hw : w < out.length) (hu : (s : Int) ≠ u) {f g : Int} (h : szCov n u out f g) : szCov n u (out.set w (s : Int)) f g := by
  intro p q e1 e2
  obtain ⟨h1, h2⟩ := h p q e1 e2
  rw [szIs_set hw hu, szIs_set hw hu, h1, h2]
  exact ⟨ite_self _, ite_self _⟩
/-- a word taken: told, if it was not -/
def szTake (n s : Nat) (u : Int) (o : List Int × List Int) (w : Nat) : List Int × List Int := if szIs n u o.1 w = true then (o.1.set w (s : Int), o.2 ++ [(w : Int)]) else o
theorem szTake_keep {n s : Nat} {u : Int} (hu : u ≤ 0) (hs : 1 ≤ s) {o : List Int × List Int} (h : SzI n s u o.1 o.2) {w : Nat} (hw : w < szN n) (hT : szT n w ≤ s) : SzI n s u (szTake n s u o w).1 (szTake n s u o w).2 := by
  unfold szTake
  by_cases e : szIs n u o.1 w = true
  · rw [if_pos e]; exact (h.put hu hs hw hT e).1
  · rw [if_neg e]; exact h
theorem szTake_is {n s : Nat} {u : Int} (hu : u ≤ 0) (hs : 1 ≤ s) {o : List Int × List Int} {w : Nat} (hw : w < o.1.length) (x : Nat) : szIs n u (szTake n s u o w).1 x = if x = w then false else szIs n u o.1 x := by
  unfold szTake
  by_cases e : szIs n u o.1 w = true
  · rw [if_pos e]; exact szIs_set hw (by omega) x
  · rw [if_neg e]
    by_cases e2 : x = w
    · rw [if_pos e2, e2]; simpa using e
    · rw [if_neg e2]
theorem szTake_cov {n s : Nat} {u : Int} (hu : u ≤ 0) (hs : 1 ≤ s) {o : List Int × List Int} {w : Nat} (hw : w < o.1.length) {f g : Int} (h : szCov n u o.1 f g) : szCov n u (szTake n s u o w).1 f g := by
  intro p q e1 e2
  obtain ⟨h1, h2⟩ := h p q e1 e2
  rw [szTake_is hu hs hw, szTake_is hu hs hw, h1, h2]
  exact ⟨ite_self _, ite_self _⟩
theorem szTake_len {n s : Nat} {u : Int} (o : List Int × List Int) (w : Nat) : (szTake n s u o w).1.length = o.1.length := by
  unfold szTake
  by_cases e : szIs n u o.1 w = true
  · rw [if_pos e]; simp
  · rw [if_neg e]
/-- both words of a pair taken -/
def szPair (n s : Nat) (u : Int) (o : List Int × List Int) (p q : Nat) : List Int × List Int := szTake n s u (szTake n s u o (p &&& q)) (p ||| q)
theorem szPair_keep {n s : Nat} {u : Int} (hu : u ≤ 0) (hs : 1 ≤ s) (hn : n ≤ 3) {o : List Int × List Int} (h : SzI n s u o.1 o.2) {p q : Nat} (hp : p < szN n) (hq : q < szN n) (h1 : szT n p ≠ 0) (h2 : szT n q ≠ 0) (hT : szT n p + szT n q ≤ s) : SzI n s u (szPair n s u o p q).1 (szPair n s u o p q).2 := by
  obtain ⟨a, b⟩ := szT_pair hn hp hq h1 h2
  have hl1 : p &&& q < szN n := Nat.lt_of_le_of_lt Nat.and_le_left hp
  have hl2 : p ||| q < szN n := Nat.or_lt_two_pow hp hq
  exact szTake_keep hu hs (szTake_keep hu hs h hl1 (by omega)) hl2 (by omega)
theorem szPair_cov {n s : Nat} {u : Int} (hu : u ≤ 0) (hs : 1 ≤ s) {o : List Int × List Int} (hlen : o.1.length = szN n) {p q : Nat} (hp : p < szN n) (hq : q < szN n) : szCov n u (szPair n s u o p q).1 (p : Int) (q : Int) ∧ ∀ f g, szCov n u o.1 f g → szCov n u (szPair n s u o p q).1 f g := by
  have hl1 : p &&& q < o.1.length := by rw [hlen]; exact Nat.lt_of_le_of_lt Nat.and_le_left hp
  have hl2 : p ||| q < (szTake n s u o (p &&& q)).1.length := by rw [szTake_len, hlen]; exact Nat.or_lt_two_pow hp hq
  refine ⟨fun p' q' e1 e2 => ?_, fun f g h => szTake_cov hu hs hl2 (szTake_cov hu hs hl1 h)⟩
  obtain rfl : p = p' := by omega
  obtain rfl : q = q' := by omega
  unfold szPair
  rw [szTake_is hu hs hl2, szTake_is hu hs hl2, szTake_is hu hs hl1, szTake_is hu hs hl1, if_pos rfl, if_pos rfl]
  exact ⟨ite_self _, rfl⟩
/-- letters with and without an exclamation mark, of the first i ones -/
def szLets (n : Nat) : Nat → List Int
  | 0 => []
  | i + 1 => szLets n i ++ [(szVar n i : Int), ((szN n - 1 - szVar n i : Nat) : Int)]
theorem cnt_const (n : Nat) (hn : n ≤ 3) : cnt (fun w => decide (szT n w ≠ 0)) (szN n) + 2 = szN n := by
  have h : allB 4 (fun n => decide (cnt (fun w => decide (szT n w ≠ 0)) (szN n) + 2 = szN n)) = true := by decide +kernel
  exact of_decide_eq_true (allB4 h hn)
theorem szIsLet_elim {n w : Nat} : ∀ {i : Nat}, szIsLet n w i = true → ∃ j, j < i ∧ (w = szVar n j ∨ w + szVar n j + 1 = szN n)
  | 0, h => by cases h
  | i + 1, h => by
    rw [szIsLet, Bool.or_eq_true, Bool.or_eq_true] at h
    rcases h with (h | h) | h
    · obtain ⟨j, h1, h2⟩ := szIsLet_elim h
      exact ⟨j, by omega, h2⟩
    · exact ⟨i, by omega, .inl (Nat.eq_of_beq_eq_true h)⟩
    · exact ⟨i, by omega, .inr (Nat.eq_of_beq_eq_true h)⟩
def szC5 : Bool := allB 4 fun n => allB n fun i => Nat.blt (szVar n i) (szN n) && Nat.beq (szT n (szVar n i)) 1 && Nat.beq (szT n (szN n - 1 - szVar n i)) 1 && Nat.beq (Nat.xor (szVar n i) (szN n - 1)) (szN n - 1 - szVar n i)
theorem szC5_ok : szC5 = true := by decide +kernel
theorem szVar_ok {n i : Nat} (hn : n ≤ 3) (hi : i < n) : szVar n i < szN n ∧ szT n (szVar n i) = 1 ∧ szT n (szN n - 1 - szVar n i) = 1 ∧ szVar n i ^^^ (szN n - 1) = szN n - 1 - szVar n i := by
  have h := allB_of (allB4 szC5_ok hn) i hi
  simp only [Bool.and_eq_true] at h
  obtain ⟨⟨⟨a1, a2⟩, a3⟩, a4⟩ := h
  exact ⟨Nat.le_of_ble_eq_true a1, Nat.eq_of_beq_eq_true a2, Nat.eq_of_beq_eq_true a3, Nat.eq_of_beq_eq_true a4⟩
theorem szN_pos {n : Nat} : 2 ≤ szN n := by
  have := Nat.pow_le_pow_right (show 0 < 2 by decide) (Nat.one_le_two_pow (n := n))
  simpa [szN] using this
theorem szLet_done {n : Nat} {u : Int} {out : List Int} (hn : n ≤ 3) (h : ∀ j, j < n → szIs n u out (szVar n j) = false ∧ szIs n u out (szN n - 1 - szVar n j) = false) : ∀ w, w < szN n → szT n w = 1 → szIs n u out w = false := by
  intro w hw h1
  obtain ⟨j, hj, e⟩ := szIsLet_elim ((szT_one hn hw).mp h1)
  have hv := (szVar_ok hn hj).1
  rcases e with e | e
  · rw [e]; exact (h j hj).1
  · rw [show w = szN n - 1 - szVar n j by omega]; exact (h j hj).2
theorem SzR.one (n : Nat) : SzR n 1 [[]] := by
  refine ⟨rfl, fun k x hk hx => ?_, fun w hw h1 h2 => by omega, fun k hk => ?_⟩
  · obtain rfl : k = 0 := by omega
    cases hx
  · obtain rfl : k = 0 := by omega
    exact Nat.zero_le _
/-- the step of the letters -/
theorem szLet_step {n : Nat} {u : Int} (hn : n ≤ 3) (hu : u ≤ 0) {o : List Int × List Int} (hlen : o.1.length = szN n) {i : Nat} (hi : i < n) (h : ∀ j, j < i → szIs n u o.1 (szVar n j) = false ∧ szIs n u o.1 (szN n - 1 - szVar n j) = false) :
    ∀ j, j < i + 1 → szIs n u (szTake n 1 u (szTake n 1 u o (szVar n i)) (szN n - 1 - szVar n i)).1 (szVar n j) = false ∧ szIs n u (szTake n 1 u (szTake n 1 u o (szVar n i)) (szN n - 1 - szVar n i)).1 (szN n - 1 - szVar n j) = false := by
  have h2 := szN_pos (n := n)
  have hv := (szVar_ok hn hi).1
  have l1 : szVar n i < o.1.length := by rw [hlen]; exact hv
  have l2 : szN n - 1 - szVar n i < (szTake n 1 u o (szVar n i)).1.length := by rw [szTake_len, hlen]; omega
  have key : ∀ x, szIs n u o.1 x = false ∨ x = szVar n i ∨ x = szN n - 1 - szVar n i → szIs n u (szTake n 1 u (szTake n 1 u o (szVar n i)) (szN n - 1 - szVar n i)).1 x = false := by
    intro x hx
    rw [szTake_is hu (by omega) l2, szTake_is hu (by omega) l1]
    rcases hx with hx | hx | hx
    · rw [hx]; simp
    · rw [if_pos hx]; simp
    · rw [if_pos hx]
  intro j hj
  by_cases e : j = i
  · subst e; exact ⟨key _ (.inr (.inl rfl)), key _ (.inr (.inr rfl))⟩
  · exact ⟨key _ (.inl (h j (by omega)).1), key _ (.inl (h j (by omega)).2)⟩

end Go.Proofs.YtmdpjmcleckedaaDoor.M
