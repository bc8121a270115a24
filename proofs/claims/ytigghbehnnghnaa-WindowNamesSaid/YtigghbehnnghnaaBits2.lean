import Derived.Test.YtigghbehnnghnaaBits
namespace Go.RowBits

/-! ### The row of a list of bits -/
def packK (bs : List Bool) : Nat → List Nat
  | 0 => List.replicate ((bs.length + 63) / 64) 0
  | k + 1 => if bs.getD k false then (packK bs k).set (k / 64) ((packK bs k).getD (k / 64) 0 + 2 ^ (k % 64)) else packK bs k
theorem packK_len (bs : List Bool) : ∀ k, (packK bs k).length = (bs.length + 63) / 64
  | 0 => by simp [packK]
  | k + 1 => by
    unfold packK
    split
    · rw [List.length_set, packK_len bs k]
    · exact packK_len bs k
theorem lt_pow_of_bits {w m : Nat} (h : ∀ i, m ≤ i → w.testBit i = false) : w < 2 ^ m := Nat.lt_pow_two_of_testBit w h
theorem getD_set_self {ws : List Nat} {j x : Nat} (hj : j < ws.length) : (ws.set j x).getD j 0 = x := by
  rw [List.getD_eq_getElem?_getD, List.getElem?_set, if_pos rfl, if_pos hj, Option.getD_some]
theorem getD_set_ne {ws : List Nat} {j k x : Nat} (h : j ≠ k) : (ws.set j x).getD k 0 = ws.getD k 0 := by
  rw [List.getD_eq_getElem?_getD, List.getElem?_set, if_neg h, ← List.getD_eq_getElem?_getD]
theorem packK_bits (bs : List Bool) : ∀ k, k ≤ bs.length → W64 (packK bs k) ∧ ∀ i, bitw (packK bs k) i = (decide (i < k) && bs.getD i false)
  | 0, _ => by
    have e : ∀ j, (packK bs 0).getD j 0 = 0 := fun j => by
      unfold packK
      rw [List.getD_eq_getElem?_getD, List.getElem?_replicate]
      split <;> rfl
    refine ⟨fun j => by rw [e]; show 0 < U; unfold U; omega, fun i => ?_⟩
    unfold bitw
    rw [e]
    simp
  | k + 1, hk => by
    obtain ⟨h1, h2⟩ := packK_bits bs k (by omega)
    have hl := packK_len bs k
    unfold packK
    by_cases hb : bs.getD k false
    · rw [if_pos hb]
      generalize packK bs k = ws at *
      have hj : k / 64 < ws.length := by omega
      have hw : ws.getD (k / 64) 0 < 2 ^ (k % 64) := by
        apply lt_pow_of_bits
        intro i hi
        by_cases h64 : i < 64
        · have := h2 (64 * (k / 64) + i)
          unfold bitw at this
          rw [show (64 * (k / 64) + i) / 64 = k / 64 from by omega, show (64 * (k / 64) + i) % 64 = i from by omega] at this
          rw [this]
          have : ¬ (64 * (k / 64) + i < k) := by omega
          simp [this]
        · apply Nat.testBit_lt_two_pow
          have := h1 (k / 64)
          exact Nat.lt_of_lt_of_le (by rw [← U_eq]; exact this) (Nat.pow_le_pow_right (by decide) (by omega))
      have hp : (2 : Nat) ^ (k % 64) ≤ 2 ^ 63 := Nat.pow_le_pow_right (by decide) (by omega)
      refine ⟨fun j => ?_, fun i => ?_⟩
      · by_cases e : k / 64 = j
        · subst e
          rw [getD_set_self hj]
          have : (2 : Nat) ^ 63 + 2 ^ 63 = U := by decide
          omega
        · rw [getD_set_ne e]; exact h1 j
      · have e0 : ws.getD (k / 64) 0 + 2 ^ (k % 64) = 2 ^ (k % 64) * 1 + ws.getD (k / 64) 0 := by omega
        by_cases e : k / 64 = i / 64
        · unfold bitw
          rw [← e, getD_set_self hj, e0, Nat.testBit_two_pow_mul_add _ hw]
          have h3 := h2 i
          unfold bitw at h3
          rw [← e] at h3
          by_cases hi : i % 64 < k % 64
          · rw [if_pos hi, h3]
            have a1 : i < k := by omega
            have a2 : i < k + 1 := by omega
            simp [a1, a2]
          · rw [if_neg hi]
            by_cases hik : i = k
            · subst hik
              rw [Nat.sub_self]
              simp only [Nat.lt_succ_self, decide_true, Bool.true_and]
              rw [hb]
              rfl
            · have a1 : ¬ (i < k + 1) := by omega
              obtain ⟨d, hd⟩ : ∃ d, i % 64 - k % 64 = d + 1 := ⟨i % 64 - k % 64 - 1, by omega⟩
              rw [hd, Nat.testBit_succ]
              simp [a1]
        · unfold bitw
          rw [getD_set_ne e]
          have h3 := h2 i
          unfold bitw at h3
          rw [h3]
          by_cases a1 : i < k
          · have a2 : i < k + 1 := by omega
            simp [a1, a2]
          · have a2 : ¬ (i < k + 1) := by omega
            simp [a1, a2]
    · rw [if_neg hb]
      refine ⟨h1, fun i => ?_⟩
      rw [h2 i]
      by_cases hik : i = k
      · subst hik
        have : bs.getD i false = false := by simpa using hb
        rw [this]; simp
      · by_cases a1 : i < k
        · have a2 : i < k + 1 := by omega
          simp [a1, a2]
        · have a2 : ¬ (i < k + 1) := by omega
          simp [a1, a2]
def pack (bs : List Bool) : List Nat := packK bs bs.length
theorem pack_good (bs : List Bool) : RowGood bs.length (pack bs) := by
  obtain ⟨h1, h2⟩ := packK_bits bs bs.length (Nat.le_refl _)
  refine ⟨packK_len _ _, h1, fun i hi => ?_⟩
  unfold pack
  rw [h2 i]
  have : ¬ (i < bs.length) := by omega
  simp [this]
theorem pack_bit (bs : List Bool) {i : Nat} (hi : i < bs.length) : bitw (pack bs) i = bs.getD i false := by
  obtain ⟨_, h2⟩ := packK_bits bs bs.length (Nat.le_refl _)
  unfold pack
  rw [h2 i]
  simp [hi]

/-! ### A rule's answer at one word -/
def lineBit (born stay c : Nat) (here : Bool) : Bool := if here then stay.testBit c else born.testBit c
def sel1 (k d w : Nat) : Nat := if k.testBit d then w else U - 1 - w
def sel (s : Cnt) (k : Nat) : Nat := (((U - 1) &&& sel1 k 0 s.a) &&& sel1 k 1 s.b) &&& sel1 k 2 s.c &&& sel1 k 3 s.d
structure Cnt.ok (s : Cnt) : Prop where
  a : s.a < U
  b : s.b < U
  c : s.c < U
  d : s.d < U
theorem lt_U_iff {w : Nat} : w < U ↔ ∀ i, 64 ≤ i → w.testBit i = false := by
  rw [U_eq]
  constructor
  · intro h i hi
    exact Nat.testBit_lt_two_pow (Nat.lt_of_lt_of_le h (Nat.pow_le_pow_right (by decide) hi))
  · intro h; exact lt_pow_of_bits h
theorem and_lt_U {a b : Nat} (h : a < U) : a &&& b < U := by
  rw [lt_U_iff] at *
  intro i hi
  rw [Nat.testBit_and, h i hi, Bool.false_and]
theorem or_lt_U {a b : Nat} (h : a < U) (k : b < U) : a ||| b < U := by
  rw [lt_U_iff] at *
  intro i hi
  rw [Nat.testBit_or, h i hi, k i hi]; rfl
theorem xor_lt_U {a b : Nat} (h : a < U) (k : b < U) : a ^^^ b < U := by
  rw [lt_U_iff] at *
  intro i hi
  rw [Nat.testBit_xor, h i hi, k i hi]; rfl
theorem not_bit {w j : Nat} (hw : w < U) (hj : j < 64) : (U - 1 - w).testBit j = !w.testBit j := by
  have e : U - 1 - w = 2 ^ 64 - (w + 1) := by rw [← U_eq]; omega
  rw [e, Nat.testBit_two_pow_sub_succ (by rw [← U_eq]; exact hw)]
  simp [hj]
theorem ones_bit {j : Nat} (hj : j < 64) : (U - 1).testBit j = true := by
  have := not_bit (w := 0) (j := j) (by unfold U; omega) hj
  simpa using this
theorem sel1_bit {k d w j : Nat} (hw : w < U) (hj : j < 64) : (sel1 k d w).testBit j = (w.testBit j == k.testBit d) := by
  unfold sel1
  cases e : k.testBit d
  · simp only [Bool.false_eq_true, if_false]
    rw [not_bit hw hj]
    cases w.testBit j <;> rfl
  · simp only [if_true]
    cases w.testBit j <;> rfl
theorem Cnt.add_ok {s : Cnt} (h : s.ok) {w : Nat} (hw : w < U) : (s.add w).ok :=
  ⟨xor_lt_U h.a hw, xor_lt_U h.b (and_lt_U h.a), xor_lt_U h.c (and_lt_U h.b), or_lt_U h.d (and_lt_U h.c)⟩
theorem sel_bit {s : Cnt} (h : s.ok) {k j : Nat} (hj : j < 64) : (sel s k).testBit j = true ↔ s.says j k := by
  unfold sel Cnt.says
  simp only [Nat.testBit_and, ones_bit hj, sel1_bit h.a hj, sel1_bit h.b hj, sel1_bit h.c hj, sel1_bit h.d hj, Bool.true_and, Bool.and_eq_true, beq_iff_eq, and_assoc]
/-- The rule's word behind the first K counts. -/
def accK (born stay : Nat) (s : Cnt) (here : Nat) : Nat → Nat
  | 0 => 0
  | k + 1 =>
    let x := accK born stay s here k
    let y := if born.testBit k then x ||| (sel s k &&& (U - 1 - here)) else x
    if stay.testBit k then y ||| (sel s k &&& here) else y
theorem accK_lt (born stay : Nat) {s : Cnt} (hs : s.ok) {here : Nat} (hh : here < U) : ∀ K, accK born stay s here K < U
  | 0 => by unfold accK U; omega
  | K + 1 => by
    have ih := accK_lt born stay hs hh K
    have h1 : sel s K < U := and_lt_U (and_lt_U (and_lt_U (and_lt_U (by unfold U; omega))))
    unfold accK
    simp only
    split <;> split <;> first | exact ih | exact or_lt_U ih (and_lt_U h1) | exact or_lt_U (or_lt_U ih (and_lt_U h1)) (and_lt_U h1)
theorem accK_bit (born stay : Nat) {s : Cnt} (hs : s.ok) {here : Nat} (hh : here < U) {j c : Nat} (hj : j < 64) (hc : c < 16) (hsays : s.says j c) :
    ∀ K, K ≤ 16 → (accK born stay s here K).testBit j = (decide (c < K) && lineBit born stay c (here.testBit j))
  | 0, _ => by unfold accK; simp
  | K + 1, hK => by
    have ih := accK_bit born stay hs hh hj hc hsays K (by omega)
    have hsel : (sel s K).testBit j = decide (c = K) := by
      have h1 := sel_bit hs (k := K) hj
      rw [Cnt.says_inj hsays hc (by omega)] at h1
      rw [Bool.eq_iff_iff, h1, decide_eq_true_iff]
    have e : (accK born stay s here (K + 1)).testBit j = ((accK born stay s here K).testBit j || (born.testBit K && ((sel s K).testBit j && !here.testBit j)) || (stay.testBit K && ((sel s K).testBit j && here.testBit j))) := by
      rw [accK]
      cases born.testBit K <;> cases stay.testBit K <;> simp only [Bool.false_eq_true, if_false, if_true, Nat.testBit_or, Nat.testBit_and, not_bit hh hj, Bool.true_and, Bool.false_and, Bool.or_false]
    rw [e, ih, hsel]
    unfold lineBit
    by_cases hcK : c = K
    · subst hcK
      have a1 : ¬ (c < c) := by omega
      simp only [a1, decide_false, Bool.false_and, Bool.false_or, decide_true, Bool.true_and, Nat.lt_succ_self]
      cases here.testBit j <;> simp
    · have a0 : decide (c = K) = false := decide_eq_false hcK
      rw [a0]
      simp only [Bool.false_and, Bool.and_false, Bool.or_false]
      by_cases a1 : c < K
      · have a2 : c < K + 1 := by omega
        simp [a1, a2]
      · have a2 : ¬ (c < K + 1) := by omega
        simp [a1, a2]
/-- The mask of a last word. -/
theorem mask_bit {w m j : Nat} : (w &&& (2 ^ m - 1)).testBit j = (decide (j < m) && w.testBit j) := by
  rw [Nat.testBit_and, Nat.testBit_two_pow_sub_one, Bool.and_comm]
end Go.RowBits
