import Derived.Test.YtigghbehnnghnaaBits2
namespace Go.RowBits

/-! ### Three rows: what lives around a place -/
def rowAt (a h b : List Nat) (y : Int) : List Nat := if y = -1 then a else if y = 0 then h else b
def shN (ws : List Nat) : Nat → List Nat
  | 0 => ws
  | m + 1 => downW (shN ws m)
theorem shN_good {n : Nat} {ws : List Nat} (h : RowGood n ws) : ∀ m, RowGood n (shN ws m)
  | 0 => h
  | m + 1 => downW_good (shN_good h m)
theorem shN_64 {ws : List Nat} (h : W64 ws) : ∀ m, W64 (shN ws m)
  | 0 => h
  | m + 1 => downW_64 (shN_64 h m)
theorem shN_bit' {ws : List Nat} (h : W64 ws) : ∀ m i, bitw (shN ws m) i = bitw ws (i + m)
  | 0, _ => rfl
  | m + 1, i => by
    show bitw (downW (shN ws m)) i = _
    rw [downW_bit (shN_64 h m), shN_bit' h m (i + 1), show i + 1 + m = i + (m + 1) from by omega]
theorem shN_bit {ws : List Nat} (h : W64 ws) (i m : Nat) : bitw (shN ws m) i = bitw ws (i + m) := shN_bit' h m i
theorem shN_len {ws : List Nat} : ∀ m, (shN ws m).length = ws.length
  | 0 => rfl
  | m + 1 => by
    show (downW (shN ws m)).length = _
    rw [downW_len, shN_len m]

section
variable (L : List (Int × Int)) (born stay : Nat) (a h b : List Nat)
/-- How many of the first k neighbours of place i (of the row behind) live. -/
def cntTo (i : Nat) : Nat → Nat
  | 0 => 0
  | k + 1 => cntTo i k + (bitw (rowAt a h b (L.getD k (0, 0)).2) ((i : Int) + 1 + (L.getD k (0, 0)).1).toNat).toNat
theorem cntTo_le (i : Nat) : ∀ k, cntTo L a h b i k ≤ k
  | 0 => Nat.le_refl _
  | k + 1 => by
    have := cntTo_le i k
    show cntTo L a h b i k + _ ≤ _
    have : (bitw (rowAt a h b (L.getD k (0, 0)).2) ((i : Int) + 1 + (L.getD k (0, 0)).1).toNat).toNat ≤ 1 := by
      cases bitw (rowAt a h b (L.getD k (0, 0)).2) ((i : Int) + 1 + (L.getD k (0, 0)).1).toNat <;> decide
    omega
/-- The word j that the k-th neighbour brings. -/
def wordOf (j k : Nat) : Nat := (shN (rowAt a h b (L.getD k (0, 0)).2) ((L.getD k (0, 0)).1 + 1).toNat).getD j 0
def cntW (j : Nat) : Nat → Cnt
  | 0 => ⟨0, 0, 0, 0⟩
  | k + 1 => (cntW j k).add (wordOf L a h b j k)
structure Rows64 : Prop where
  a : W64 a
  h : W64 h
  b : W64 b
variable {L born stay a h b}
theorem rowAt_64 (r : Rows64 a h b) (y : Int) : W64 (rowAt a h b y) := by
  unfold rowAt
  split
  · exact r.a
  · split
    · exact r.h
    · exact r.b
theorem wordOf_lt (r : Rows64 a h b) (j k : Nat) : wordOf L a h b j k < U := shN_64 (rowAt_64 r _) _ _
theorem cntW_ok (r : Rows64 a h b) (j : Nat) : ∀ k, (cntW L a h b j k).ok
  | 0 => ⟨by show 0 < U; unfold U; omega, by show 0 < U; unfold U; omega, by show 0 < U; unfold U; omega, by show 0 < U; unfold U; omega⟩
  | k + 1 => Cnt.add_ok (cntW_ok r j k) (wordOf_lt r j k)
theorem cntW_says (r : Rows64 a h b) (hL : ∀ k, k < L.length → -1 ≤ (L.getD k (0, 0)).1) {j c : Nat} (hc : c < 64) : ∀ k, k ≤ L.length → k ≤ 15 → (cntW L a h b j k).says c (cntTo L a h b (64 * j + c) k)
  | 0, _, _ => Cnt.says_zero c
  | k + 1, hk, h15 => by
    have ih := cntW_says r hL (j := j) hc k (by omega) (by omega)
    have hle := cntTo_le L a h b (64 * j + c) k
    have h1 := Cnt.says_add ih (by omega) (wordOf L a h b j k)
    have e : (wordOf L a h b j k).testBit c = bitw (rowAt a h b (L.getD k (0, 0)).2) (((64 * j + c : Nat) : Int) + 1 + (L.getD k (0, 0)).1).toNat := by
      have hx := hL k (by omega)
      have e1 := shN_bit (rowAt_64 r (L.getD k (0, 0)).2) (64 * j + c) ((L.getD k (0, 0)).1 + 1).toNat
      rw [show (((64 * j + c : Nat) : Int) + 1 + (L.getD k (0, 0)).1).toNat = 64 * j + c + ((L.getD k (0, 0)).1 + 1).toNat from by omega, ← e1]
      unfold wordOf bitw
      rw [show (64 * j + c) / 64 = j from by omega, show (64 * j + c) % 64 = c from by omega]
    rw [e] at h1
    exact h1
variable (L born stay a h b)
/-- The word j of the row behind, not masked yet. -/
def outWord (j : Nat) : Nat := accK born stay (cntW L a h b j L.length) ((shN h 1).getD j 0) (L.length + 1)
/-- The row behind, bit by bit. -/
def lineB (n : Nat) : List Bool := (List.range n).map fun i => lineBit born stay (cntTo L a h b i L.length) (bitw h (i + 1))
/-- The row behind, in words: what has been laid behind the loop. -/
def outW (n : Nat) : List Nat := (List.range ((n + 63) / 64)).map (outWord L born stay a h b)
/-- The last word masked. -/
def maskW (n : Nat) (ws : List Nat) : List Nat := if n % 64 = 0 then ws else ws.set (ws.length - 1) (ws.getD (ws.length - 1) 0 &&& (2 ^ (n % 64) - 1))
variable {L born stay a h b}
theorem outWord_lt (r : Rows64 a h b) (j : Nat) : outWord L born stay a h b j < U := accK_lt _ _ (cntW_ok r j _) (shN_64 r.h 1 j) _
theorem outWord_bit (r : Rows64 a h b) (hL : ∀ k, k < L.length → -1 ≤ (L.getD k (0, 0)).1) (h8 : L.length ≤ 8) {j c : Nat} (hc : c < 64) :
    (outWord L born stay a h b j).testBit c = lineBit born stay (cntTo L a h b (64 * j + c) L.length) (bitw h (64 * j + c + 1)) := by
  have hs := cntW_says r hL (j := j) hc L.length (Nat.le_refl _) (by omega)
  have hle := cntTo_le L a h b (64 * j + c) L.length
  have h1 := accK_bit born stay (cntW_ok r j L.length) (shN_64 r.h 1 j) hc (by omega) hs (L.length + 1) (by omega)
  have e := shN_bit r.h (64 * j + c) 1
  unfold bitw at e
  rw [show (64 * j + c) / 64 = j from by omega, show (64 * j + c) % 64 = c from by omega] at e
  unfold outWord
  rw [h1, e]
  have : cntTo L a h b (64 * j + c) L.length < L.length + 1 := by omega
  simp only [this, decide_true, Bool.true_and]
  rfl
theorem outW_get (n : Nat) {j : Nat} (hj : j < (n + 63) / 64) : (outW L born stay a h b n).getD j 0 = outWord L born stay a h b j := by
  unfold outW
  rw [List.getD_eq_getElem?_getD, List.getElem?_map, List.getElem?_range hj, Option.map_some, Option.getD_some]
theorem outW_len (n : Nat) : (outW L born stay a h b n).length = (n + 63) / 64 := by unfold outW; simp
theorem maskW_len (n : Nat) (ws : List Nat) : (maskW n ws).length = ws.length := by
  unfold maskW
  split
  · rfl
  · rw [List.length_set]
/-- Word by word is bit by bit. -/
theorem line_eq (r : Rows64 a h b) (hL : ∀ k, k < L.length → -1 ≤ (L.getD k (0, 0)).1) (h8 : L.length ≤ 8) (n : Nat) : maskW n (outW L born stay a h b n) = pack (lineB L born stay a h b n) := by
  have hpl : (lineB L born stay a h b n).length = n := by unfold lineB; simp
  have hg := pack_good (lineB L born stay a h b n)
  rw [hpl] at hg
  have hget : ∀ j, j < (n + 63) / 64 → (maskW n (outW L born stay a h b n)).getD j 0 = if n % 64 ≠ 0 ∧ j = (n + 63) / 64 - 1 then outWord L born stay a h b j &&& (2 ^ (n % 64) - 1) else outWord L born stay a h b j := by
    intro j hj
    unfold maskW
    by_cases h0 : n % 64 = 0
    · rw [if_pos h0, if_neg (fun e => e.1 h0), outW_get n hj]
    · rw [if_neg h0, outW_len]
      by_cases hjl : j = (n + 63) / 64 - 1
      · subst hjl
        rw [if_pos ⟨h0, rfl⟩, getD_set_self (by rw [outW_len]; exact hj), outW_get n hj]
      · rw [if_neg (fun e => hjl e.2), getD_set_ne (fun e => hjl e.symm), outW_get n hj]
  have hout : ∀ j, ¬ j < (n + 63) / 64 → (maskW n (outW L born stay a h b n)).getD j 0 = 0 := fun j hj => by
    rw [List.getD_eq_getElem?_getD, List.getElem?_eq_none (by rw [maskW_len, outW_len]; omega), Option.getD_none]
  have hbit : ∀ i, bitw (maskW n (outW L born stay a h b n)) i = (decide (i < n) && lineBit born stay (cntTo L a h b i L.length) (bitw h (i + 1))) := by
    intro i
    unfold bitw
    by_cases hj : i / 64 < (n + 63) / 64
    · rw [hget _ hj]
      have hb := outWord_bit (born := born) (stay := stay) r hL h8 (j := i / 64) (c := i % 64) (by omega)
      rw [show 64 * (i / 64) + i % 64 = i from by omega] at hb
      by_cases hm : n % 64 ≠ 0 ∧ i / 64 = (n + 63) / 64 - 1
      · rw [if_pos hm, mask_bit, hb]
        have : decide (i % 64 < n % 64) = decide (i < n) := by
          rw [decide_eq_decide]
          omega
        rw [this]
        rfl
      · rw [if_neg hm, hb]
        have : i < n := by omega
        simp only [this, decide_true, Bool.true_and]
        rfl
    · rw [hout _ hj]
      have : ¬ i < n := by omega
      simp [this]
  refine RowGood.ext (n := n) ⟨by rw [maskW_len, outW_len], fun j => ?_, fun i hi => ?_⟩ hg fun i hi => ?_
  · by_cases hj : j < (n + 63) / 64
    · rw [hget _ hj]
      split
      · exact and_lt_U (outWord_lt r j)
      · exact outWord_lt r j
    · rw [hout _ hj]; show 0 < U; unfold U; omega
  · rw [hbit]
    have : ¬ i < n := by omega
    simp [this]
  · rw [hbit, pack_bit _ (by rw [hpl]; exact hi)]
    unfold lineB
    simp [hi]
end
end Go.RowBits
