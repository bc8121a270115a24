import Derived.Laws.BitsAllLaws
/- Rows of bits in words of 64: plain theory, no program. -/
namespace Go.RowBits
abbrev U : Nat := 18446744073709551616

theorem U_eq : U = 2 ^ 64 := by decide
/-- The bit at place i. -/
def bitw (ws : List Nat) (i : Nat) : Bool := (ws.getD (i / 64) 0).testBit (i % 64)
/-- All words are words of 64 bits. -/
def W64 (ws : List Nat) : Prop := ∀ j, ws.getD j 0 < U
/-- A row of n bits that may be. -/
structure RowGood (n : Nat) (ws : List Nat) : Prop where
  len : ws.length = (n + 63) / 64
  w64 : W64 ws
  top : ∀ i, n ≤ i → bitw ws i = false

theorem word_ext {a b : Nat} (ha : a < U) (hb : b < U) (h : ∀ i, i < 64 → a.testBit i = b.testBit i) : a = b := by
  apply Nat.eq_of_testBit_eq
  intro i
  by_cases hi : i < 64
  · exact h i hi
  · have e : ∀ x, x < U → x.testBit i = false := fun x hx => by
      apply Nat.testBit_lt_two_pow
      exact Nat.lt_of_lt_of_le (by rw [← U_eq]; exact hx) (Nat.pow_le_pow_right (by decide) (by omega))
    rw [e a ha, e b hb]
theorem RowGood.ext {n : Nat} {a b : List Nat} (ha : RowGood n a) (hb : RowGood n b) (h : ∀ i, i < n → bitw a i = bitw b i) : a = b := by
  apply List.ext_getElem
  · rw [ha.len, hb.len]
  · intro j h1 h2
    have e1 : a.getD j 0 = a[j] := by rw [List.getD_eq_getElem?_getD, List.getElem?_eq_getElem h1, Option.getD_some]
    have e2 : b.getD j 0 = b[j] := by rw [List.getD_eq_getElem?_getD, List.getElem?_eq_getElem h2, Option.getD_some]
    rw [← e1, ← e2]
    apply word_ext (ha.w64 j) (hb.w64 j)
    intro i hi
    have d1 : (64 * j + i) / 64 = j := by omega
    have d2 : (64 * j + i) % 64 = i := by omega
    have key : bitw a (64 * j + i) = bitw b (64 * j + i) := by
      by_cases hn : 64 * j + i < n
      · exact h _ hn
      · rw [ha.top _ (by omega), hb.top _ (by omega)]
    unfold bitw at key
    rw [d1, d2] at key
    exact key
theorem bitw_out {n : Nat} {ws : List Nat} (h : ws.length = (n + 63) / 64) {i : Nat} (hi : 64 * ws.length ≤ i) : bitw ws i = false := by
  unfold bitw
  rw [List.getD_eq_getElem?_getD, List.getElem?_eq_none (by omega)]
  simp
/-- What the top word says. -/
theorem good_iff {n : Nat} {ws : List Nat} (hl : ws.length = (n + 63) / 64) (hw : W64 ws) : RowGood n ws ↔ ∀ i, n ≤ i → i < 64 * ws.length → bitw ws i = false :=
  ⟨fun h i hi _ => h.top i hi, fun h => ⟨hl, hw, fun i hi => by
    by_cases e : i < 64 * ws.length
    · exact h i hi e
    · exact bitw_out hl (by omega)⟩⟩

/-! ### One place down -/
def downW (ws : List Nat) : List Nat := (List.range ws.length).map fun j => ws.getD j 0 / 2 + (ws.getD (j + 1) 0 % 2) * 9223372036854775808
theorem downW_len (ws : List Nat) : (downW ws).length = ws.length := by simp [downW]
theorem downW_get (ws : List Nat) {j : Nat} (hj : j < ws.length) : (downW ws).getD j 0 = ws.getD j 0 / 2 + (ws.getD (j + 1) 0 % 2) * 9223372036854775808 := by
  unfold downW
  rw [List.getD_eq_getElem?_getD, List.getElem?_map, List.getElem?_range hj, Option.map_some, Option.getD_some]
theorem downW_64 {ws : List Nat} (h : W64 ws) : W64 (downW ws) := by
  intro j
  by_cases hj : j < ws.length
  · rw [downW_get ws hj]
    have := h j
    unfold U at *
    omega
  · rw [List.getD_eq_getElem?_getD, List.getElem?_eq_none (by rw [downW_len]; omega)]
    show 0 < U
    unfold U
    omega
theorem downW_bit {ws : List Nat} (h : W64 ws) (i : Nat) : bitw (downW ws) i = bitw ws (i + 1) := by
  by_cases hj : i / 64 < ws.length
  · unfold bitw
    rw [downW_get ws hj]
    have h0 := h (i / 64)
    obtain ⟨a, ha⟩ : ∃ a, ws.getD (i / 64) 0 = a := ⟨_, rfl⟩
    rw [ha] at h0 ⊢
    have hlt : a / 2 < 2 ^ 63 := by unfold U at h0; omega
    have e : a / 2 + (ws.getD (i / 64 + 1) 0 % 2) * 9223372036854775808 = 2 ^ 63 * (ws.getD (i / 64 + 1) 0 % 2) + a / 2 := by
      rw [Nat.add_comm, Nat.mul_comm]
    rw [e, Nat.testBit_two_pow_mul_add _ hlt]
    by_cases hi : i % 64 < 63
    · rw [if_pos hi, show (i + 1) / 64 = i / 64 from by omega, show (i + 1) % 64 = i % 64 + 1 from by omega, ha, Nat.testBit_succ]
    · rw [if_neg hi, show (i + 1) / 64 = i / 64 + 1 from by omega, show (i + 1) % 64 = 0 from by omega, show i % 64 = 63 from by omega]
      simp [Nat.testBit_zero]
  · have e1 : (downW ws).getD (i / 64) 0 = 0 := by
      rw [List.getD_eq_getElem?_getD, List.getElem?_eq_none (by rw [downW_len]; omega)]; rfl
    have e2 : ws.getD ((i + 1) / 64) 0 = 0 := by
      rw [List.getD_eq_getElem?_getD, List.getElem?_eq_none (by omega)]; rfl
    unfold bitw
    rw [e1, e2]
    simp
theorem downW_good {n : Nat} {ws : List Nat} (h : RowGood n ws) : RowGood n (downW ws) :=
  ⟨by rw [downW_len, h.len], downW_64 h.w64, fun i hi => by rw [downW_bit h.w64, h.top _ (by omega)]⟩

/-! ### The vertical counter: four words that count in twos, place by place -/
structure Cnt where
  a : Nat
  b : Nat
  c : Nat
  d : Nat
def Cnt.add (s : Cnt) (w : Nat) : Cnt := ⟨s.a ^^^ w, s.b ^^^ (s.a &&& w), s.c ^^^ (s.b &&& (s.a &&& w)), s.d ||| (s.c &&& (s.b &&& (s.a &&& w)))⟩
/-- The place j of the counter says n. -/
def Cnt.says (s : Cnt) (j n : Nat) : Prop := s.a.testBit j = n.testBit 0 ∧ s.b.testBit j = n.testBit 1 ∧ s.c.testBit j = n.testBit 2 ∧ s.d.testBit j = n.testBit 3
theorem Cnt.says_zero (j : Nat) : (Cnt.mk 0 0 0 0).says j 0 := by simp [Cnt.says]
theorem Cnt.says_add {s : Cnt} {j n : Nat} (h : s.says j n) (hn : n < 15) (w : Nat) : (s.add w).says j (n + (w.testBit j).toNat) := by
  obtain ⟨h1, h2, h3, h4⟩ := h
  unfold Cnt.says Cnt.add
  simp only [Nat.testBit_xor, Nat.testBit_and, Nat.testBit_or, h1, h2, h3, h4]
  have key : ∀ (n : Fin 15) (b : Bool), ((n.val.testBit 0) ^^ b) = (n.val + b.toNat).testBit 0 ∧ ((n.val.testBit 1) ^^ (n.val.testBit 0 && b)) = (n.val + b.toNat).testBit 1 ∧
      ((n.val.testBit 2) ^^ (n.val.testBit 1 && (n.val.testBit 0 && b))) = (n.val + b.toNat).testBit 2 ∧ ((n.val.testBit 3) || (n.val.testBit 2 && (n.val.testBit 1 && (n.val.testBit 0 && b)))) = (n.val + b.toNat).testBit 3 := by decide
  exact key ⟨n, hn⟩ _
theorem Cnt.says_inj {s : Cnt} {j n m : Nat} (h : s.says j n) (hn : n < 16) (hm : m < 16) : s.says j m ↔ n = m := by
  constructor
  · intro k
    obtain ⟨h1, h2, h3, h4⟩ := h
    obtain ⟨k1, k2, k3, k4⟩ := k
    have key : ∀ (n m : Fin 16), n.val.testBit 0 = m.val.testBit 0 → n.val.testBit 1 = m.val.testBit 1 → n.val.testBit 2 = m.val.testBit 2 → n.val.testBit 3 = m.val.testBit 3 → n = m := by decide
    have := key ⟨n, hn⟩ ⟨m, hm⟩ (h1.symm.trans k1) (h2.symm.trans k2) (h3.symm.trans k3) (h4.symm.trans k4)
    exact congrArg Fin.val this
  · rintro rfl; exact h
end Go.RowBits
namespace Go.RowBits

/-! ### The row of a list of bits -/
def packK (bs : List Bool) : Nat → List Nat
  | 0 => List.replicate ((bs.length + 63) / 64) 0
  | k + 1 => if bs.getD k false then (packK bs k).set (k / 64) ((packK bs k).getD (k / 64) 0 + 2 ^ (k % 64)) else packK bs k
theorem packK_len (bs : List Bool) : ∀ k, (packK bs k).length = (bs.length + 63) / 64
  | 0 => by simp [packK]
  | k + 1 => by
    unfold packK
    split
    · rw [List.length_set, packK_len bs k]
    · exact packK_len bs k
theorem lt_pow_of_bits {w m : Nat} (h : ∀ i, m ≤ i → w.testBit i = false) : w < 2 ^ m := Nat.lt_pow_two_of_testBit w h
theorem getD_set_self {ws : List Nat} {j x : Nat} (hj : j < ws.length) : (ws.set j x).getD j 0 = x := by
  rw [List.getD_eq_getElem?_getD, List.getElem?_set, if_pos rfl, if_pos hj, Option.getD_some]
theorem getD_set_ne {ws : List Nat} {j k x : Nat} (h : j ≠ k) : (ws.set j x).getD k 0 = ws.getD k 0 := by
  rw [List.getD_eq_getElem?_getD, List.getElem?_set, if_neg h, ← List.getD_eq_getElem?_getD]
theorem packK_bits (bs : List Bool) : ∀ k, k ≤ bs.length → W64 (packK bs k) ∧ ∀ i, bitw (packK bs k) i = (decide (i < k) && bs.getD i false)
  | 0, _ => by
    have e : ∀ j, (packK bs 0).getD j 0 = 0 := fun j => by
      unfold packK
      rw [List.getD_eq_getElem?_getD, List.getElem?_replicate]
      split <;> rfl
    refine ⟨fun j => by rw [e]; show 0 < U; unfold U; omega, fun i => ?_⟩
    unfold bitw
    rw [e]
    simp
  | k + 1, hk => by
    obtain ⟨h1, h2⟩ := packK_bits bs k (by omega)
    have hl := packK_len bs k
    unfold packK
    by_cases hb : bs.getD k false
    · rw [if_pos hb]
      generalize packK bs k = ws at *
      have hj : k / 64 < ws.length := by omega
      have hw : ws.getD (k / 64) 0 < 2 ^ (k % 64) := by
        apply lt_pow_of_bits
        intro i hi
        by_cases h64 : i < 64
        · have := h2 (64 * (k / 64) + i)
          unfold bitw at this
          rw [show (64 * (k / 64) + i) / 64 = k / 64 from by omega, show (64 * (k / 64) + i) % 64 = i from by omega] at this
          rw [this]
          have : ¬ (64 * (k / 64) + i < k) := by omega
          simp [this]
        · apply Nat.testBit_lt_two_pow
          have := h1 (k / 64)
          exact Nat.lt_of_lt_of_le (by rw [← U_eq]; exact this) (Nat.pow_le_pow_right (by decide) (by omega))
      have hp : (2 : Nat) ^ (k % 64) ≤ 2 ^ 63 := Nat.pow_le_pow_right (by decide) (by omega)
      refine ⟨fun j => ?_, fun i => ?_⟩
      · by_cases e : k / 64 = j
        · subst e
          rw [getD_set_self hj]
          have : (2 : Nat) ^ 63 + 2 ^ 63 = U := by decide
          omega
        · rw [getD_set_ne e]; exact h1 j
      · have e0 : ws.getD (k / 64) 0 + 2 ^ (k % 64) = 2 ^ (k % 64) * 1 + ws.getD (k / 64) 0 := by omega
        by_cases e : k / 64 = i / 64
        · unfold bitw
          rw [← e, getD_set_self hj, e0, Nat.testBit_two_pow_mul_add _ hw]
          have h3 := h2 i
          unfold bitw at h3
          rw [← e] at h3
          by_cases hi : i % 64 < k % 64
          · rw [if_pos hi, h3]
            have a1 : i < k := by omega
            have a2 : i < k + 1 := by omega
            simp [a1, a2]
          · rw [if_neg hi]
            by_cases hik : i = k
            · subst hik
              rw [Nat.sub_self]
              simp only [Nat.lt_succ_self, decide_true, Bool.true_and]
              rw [hb]
              rfl
            · have a1 : ¬ (i < k + 1) := by omega
              obtain ⟨d, hd⟩ : ∃ d, i % 64 - k % 64 = d + 1 := ⟨i % 64 - k % 64 - 1, by omega⟩
              rw [hd, Nat.testBit_succ]
              simp [a1]
        · unfold bitw
          rw [getD_set_ne e]
          have h3 := h2 i
          unfold bitw at h3
          rw [h3]
          by_cases a1 : i < k
          · have a2 : i < k + 1 := by omega
            simp [a1, a2]
          · have a2 : ¬ (i < k + 1) := by omega
            simp [a1, a2]
    · rw [if_neg hb]
      refine ⟨h1, fun i => ?_⟩
      rw [h2 i]
      by_cases hik : i = k
      · subst hik
        have : bs.getD i false = false := by simpa using hb
        rw [this]; simp
      · by_cases a1 : i < k
        · have a2 : i < k + 1 := by omega
          simp [a1, a2]
        · have a2 : ¬ (i < k + 1) := by omega
          simp [a1, a2]
def pack (bs : List Bool) : List Nat := packK bs bs.length
theorem pack_good (bs : List Bool) : RowGood bs.length (pack bs) := by
  obtain ⟨h1, h2⟩ := packK_bits bs bs.length (Nat.le_refl _)
  refine ⟨packK_len _ _, h1, fun i hi => ?_⟩
  unfold pack
  rw [h2 i]
  have : ¬ (i < bs.length) := by omega
  simp [this]
theorem pack_bit (bs : List Bool) {i : Nat} (hi : i < bs.length) : bitw (pack bs) i = bs.getD i false := by
  obtain ⟨_, h2⟩ := packK_bits bs bs.length (Nat.le_refl _)
  unfold pack
  rw [h2 i]
  simp [hi]

/-! ### A rule's answer at one word -/
def lineBit (born stay c : Nat) (here : Bool) : Bool := if here then stay.testBit c else born.testBit c
def sel1 (k d w : Nat) : Nat := if k.testBit d then w else U - 1 - w
def sel (s : Cnt) (k : Nat) : Nat := (((U - 1) &&& sel1 k 0 s.a) &&& sel1 k 1 s.b) &&& sel1 k 2 s.c &&& sel1 k 3 s.d
structure Cnt.ok (s : Cnt) : Prop where
  a : s.a < U
  b : s.b < U
  c : s.c < U
  d : s.d < U
theorem lt_U_iff {w : Nat} : w < U ↔ ∀ i, 64 ≤ i → w.testBit i = false := by
  rw [U_eq]
  constructor
  · intro h i hi
    exact Nat.testBit_lt_two_pow (Nat.lt_of_lt_of_le h (Nat.pow_le_pow_right (by decide) hi))
  · intro h; exact lt_pow_of_bits h
theorem and_lt_U {a b : Nat} (h : a < U) : a &&& b < U := by
  rw [lt_U_iff] at *
  intro i hi
  rw [Nat.testBit_and, h i hi, Bool.false_and]
theorem or_lt_U {a b : Nat} (h : a < U) (k : b < U) : a ||| b < U := by
  rw [lt_U_iff] at *
  intro i hi
  rw [Nat.testBit_or, h i hi, k i hi]; rfl
theorem xor_lt_U {a b : Nat} (h : a < U) (k : b < U) : a ^^^ b < U := by
  rw [lt_U_iff] at *
  intro i hi
  rw [Nat.testBit_xor, h i hi, k i hi]; rfl
theorem not_bit {w j : Nat} (hw : w < U) (hj : j < 64) : (U - 1 - w).testBit j = !w.testBit j := by
  have e : U - 1 - w = 2 ^ 64 - (w + 1) := by rw [← U_eq]; omega
  rw [e, Nat.testBit_two_pow_sub_succ (by rw [← U_eq]; exact hw)]
  simp [hj]
theorem ones_bit {j : Nat} (hj : j < 64) : (U - 1).testBit j = true := by
  have := not_bit (w := 0) (j := j) (by unfold U; omega) hj
  simpa using this
theorem sel1_bit {k d w j : Nat} (hw : w < U) (hj : j < 64) : (sel1 k d w).testBit j = (w.testBit j == k.testBit d) := by
  unfold sel1
  cases e : k.testBit d
  · simp only [Bool.false_eq_true, if_false]
    rw [not_bit hw hj]
    cases w.testBit j <;> rfl
  · simp only [if_true]
    cases w.testBit j <;> rfl
theorem Cnt.add_ok {s : Cnt} (h : s.ok) {w : Nat} (hw : w < U) : (s.add w).ok :=
  ⟨xor_lt_U h.a hw, xor_lt_U h.b (and_lt_U h.a), xor_lt_U h.c (and_lt_U h.b), or_lt_U h.d (and_lt_U h.c)⟩
theorem sel_bit {s : Cnt} (h : s.ok) {k j : Nat} (hj : j < 64) : (sel s k).testBit j = true ↔ s.says j k := by
  unfold sel Cnt.says
  simp only [Nat.testBit_and, ones_bit hj, sel1_bit h.a hj, sel1_bit h.b hj, sel1_bit h.c hj, sel1_bit h.d hj, Bool.true_and, Bool.and_eq_true, beq_iff_eq, and_assoc]
/-- The rule's word behind the first K counts. -/
def accK (born stay : Nat) (s : Cnt) (here : Nat) : Nat → Nat
  | 0 => 0
  | k + 1 =>
    let x := accK born stay s here k
    let y := if born.testBit k then x ||| (sel s k &&& (U - 1 - here)) else x
    if stay.testBit k then y ||| (sel s k &&& here) else y
theorem accK_lt (born stay : Nat) {s : Cnt} (hs : s.ok) {here : Nat} (hh : here < U) : ∀ K, accK born stay s here K < U
  | 0 => by unfold accK U; omega
  | K + 1 => by
    have ih := accK_lt born stay hs hh K
    have h1 : sel s K < U := and_lt_U (and_lt_U (and_lt_U (and_lt_U (by unfold U; omega))))
    unfold accK
    simp only
    split <;> split <;> first | exact ih | exact or_lt_U ih (and_lt_U h1) | exact or_lt_U (or_lt_U ih (and_lt_U h1)) (and_lt_U h1)
theorem accK_bit (born stay : Nat) {s : Cnt} (hs : s.ok) {here : Nat} (hh : here < U) {j c : Nat} (hj : j < 64) (hc : c < 16) (hsays : s.says j c) :
    ∀ K, K ≤ 16 → (accK born stay s here K).testBit j = (decide (c < K) && lineBit born stay c (here.testBit j))
  | 0, _ => by unfold accK; simp
  | K + 1, hK => by
    have ih := accK_bit born stay hs hh hj hc hsays K (by omega)
    have hsel : (sel s K).testBit j = decide (c = K) := by
      have h1 := sel_bit hs (k := K) hj
      rw [Cnt.says_inj hsays hc (by omega)] at h1
      rw [Bool.eq_iff_iff, h1, decide_eq_true_iff]
    have e : (accK born stay s here (K + 1)).testBit j = ((accK born stay s here K).testBit j || (born.testBit K && ((sel s K).testBit j && !here.testBit j)) || (stay.testBit K && ((sel s K).testBit j && here.testBit j))) := by
      rw [accK]
      cases born.testBit K <;> cases stay.testBit K <;> simp only [Bool.false_eq_true, if_false, if_true, Nat.testBit_or, Nat.testBit_and, not_bit hh hj, Bool.true_and, Bool.false_and, Bool.or_false]
    rw [e, ih, hsel]
    unfold lineBit
    by_cases hcK : c = K
    · subst hcK
      have a1 : ¬ (c < c) := by omega
      simp only [a1, decide_false, Bool.false_and, Bool.false_or, decide_true, Bool.true_and, Nat.lt_succ_self]
      cases here.testBit j <;> simp
    · have a0 : decide (c = K) = false := decide_eq_false hcK
      rw [a0]
      simp only [Bool.false_and, Bool.and_false, Bool.or_false]
      by_cases a1 : c < K
      · have a2 : c < K + 1 := by omega
        simp [a1, a2]
      · have a2 : ¬ (c < K + 1) := by omega
        simp [a1, a2]
/-- The mask of a last word. -/
theorem mask_bit {w m j : Nat} : (w &&& (2 ^ m - 1)).testBit j = (decide (j < m) && w.testBit j) := by
  rw [Nat.testBit_and, Nat.testBit_two_pow_sub_one, Bool.and_comm]
end Go.RowBits
namespace Go.RowBits

/-! ### Three rows: what lives around a place -/
def rowAt (a h b : List Nat) (y : Int) : List Nat := if y = -1 then a else if y = 0 then h else b
def shN (ws : List Nat) : Nat → List Nat
  | 0 => ws
  | m + 1 => downW (shN ws m)
theorem shN_good {n : Nat} {ws : List Nat} (h : RowGood n ws) : ∀ m, RowGood n (shN ws m)
  | 0 => h
  | m + 1 => downW_good (shN_good h m)
theorem shN_64 {ws : List Nat} (h : W64 ws) : ∀ m, W64 (shN ws m)
  | 0 => h
  | m + 1 => downW_64 (shN_64 h m)
theorem shN_bit' {ws : List Nat} (h : W64 ws) : ∀ m i, bitw (shN ws m) i = bitw ws (i + m)
  | 0, _ => rfl
  | m + 1, i => by
    show bitw (downW (shN ws m)) i = _
    rw [downW_bit (shN_64 h m), shN_bit' h m (i + 1), show i + 1 + m = i + (m + 1) from by omega]
theorem shN_bit {ws : List Nat} (h : W64 ws) (i m : Nat) : bitw (shN ws m) i = bitw ws (i + m) := shN_bit' h m i
theorem shN_len {ws : List Nat} : ∀ m, (shN ws m).length = ws.length
  | 0 => rfl
  | m + 1 => by
    show (downW (shN ws m)).length = _
    rw [downW_len, shN_len m]

section
variable (L : List (Int × Int)) (born stay : Nat) (a h b : List Nat)
/-- How many of the first k neighbours of place i (of the row behind) live. -/
def cntTo (i : Nat) : Nat → Nat
  | 0 => 0
  | k + 1 => cntTo i k + (bitw (rowAt a h b (L.getD k (0, 0)).2) ((i : Int) + 1 + (L.getD k (0, 0)).1).toNat).toNat
theorem cntTo_le (i : Nat) : ∀ k, cntTo L a h b i k ≤ k
  | 0 => Nat.le_refl _
  | k + 1 => by
    have := cntTo_le i k
    show cntTo L a h b i k + _ ≤ _
    have : (bitw (rowAt a h b (L.getD k (0, 0)).2) ((i : Int) + 1 + (L.getD k (0, 0)).1).toNat).toNat ≤ 1 := by
      cases bitw (rowAt a h b (L.getD k (0, 0)).2) ((i : Int) + 1 + (L.getD k (0, 0)).1).toNat <;> decide
    omega
/-- The word j that the k-th neighbour brings. -/
def wordOf (j k : Nat) : Nat := (shN (rowAt a h b (L.getD k (0, 0)).2) ((L.getD k (0, 0)).1 + 1).toNat).getD j 0
def cntW (j : Nat) : Nat → Cnt
  | 0 => ⟨0, 0, 0, 0⟩
  | k + 1 => (cntW j k).add (wordOf L a h b j k)
structure Rows64 : Prop where
  a : W64 a
  h : W64 h
  b : W64 b
variable {L born stay a h b}
theorem rowAt_64 (r : Rows64 a h b) (y : Int) : W64 (rowAt a h b y) := by
  unfold rowAt
  split
  · exact r.a
  · split
    · exact r.h
    · exact r.b
theorem wordOf_lt (r : Rows64 a h b) (j k : Nat) : wordOf L a h b j k < U := shN_64 (rowAt_64 r _) _ _
theorem cntW_ok (r : Rows64 a h b) (j : Nat) : ∀ k, (cntW L a h b j k).ok
  | 0 => ⟨by show 0 < U; unfold U; omega, by show 0 < U; unfold U; omega, by show 0 < U; unfold U; omega, by show 0 < U; unfold U; omega⟩
  | k + 1 => Cnt.add_ok (cntW_ok r j k) (wordOf_lt r j k)
theorem cntW_says (r : Rows64 a h b) (hL : ∀ k, k < L.length → -1 ≤ (L.getD k (0, 0)).1) {j c : Nat} (hc : c < 64) : ∀ k, k ≤ L.length → k ≤ 15 → (cntW L a h b j k).says c (cntTo L a h b (64 * j + c) k)
  | 0, _, _ => Cnt.says_zero c
  | k + 1, hk, h15 => by
    have ih := cntW_says r hL (j := j) hc k (by omega) (by omega)
    have hle := cntTo_le L a h b (64 * j + c) k
    have h1 := Cnt.says_add ih (by omega) (wordOf L a h b j k)
    have e : (wordOf L a h b j k).testBit c = bitw (rowAt a h b (L.getD k (0, 0)).2) (((64 * j + c : Nat) : Int) + 1 + (L.getD k (0, 0)).1).toNat := by
      have hx := hL k (by omega)
      have e1 := shN_bit (rowAt_64 r (L.getD k (0, 0)).2) (64 * j + c) ((L.getD k (0, 0)).1 + 1).toNat
      rw [show (((64 * j + c : Nat) : Int) + 1 + (L.getD k (0, 0)).1).toNat = 64 * j + c + ((L.getD k (0, 0)).1 + 1).toNat from by omega, ← e1]
      unfold wordOf bitw
      rw [show (64 * j + c) / 64 = j from by omega, show (64 * j + c) % 64 = c from by omega]
    rw [e] at h1
    exact h1
variable (L born stay a h b)
/-- The word j of the row behind, not masked yet. -/
def outWord (j : Nat) : Nat := accK born stay (cntW L a h b j L.length) ((shN h 1).getD j 0) (L.length + 1)
/-- The row behind, bit by bit. -/
def lineB (n : Nat) : List Bool := (List.range n).map fun i => lineBit born stay (cntTo L a h b i L.length) (bitw h (i + 1))
/-- The row behind, in words: what has been laid behind the loop. -/
def outW (n : Nat) : List Nat := (List.range ((n + 63) / 64)).map (outWord L born stay a h b)
/-- The last word masked. -/
def maskW (n : Nat) (ws : List Nat) : List Nat := if n % 64 = 0 then ws else ws.set (ws.length - 1) (ws.getD (ws.length - 1) 0 &&& (2 ^ (n % 64) - 1))
variable {L born stay a h b}
theorem outWord_lt (r : Rows64 a h b) (j : Nat) : outWord L born stay a h b j < U := accK_lt _ _ (cntW_ok r j _) (shN_64 r.h 1 j) _
theorem outWord_bit (r : Rows64 a h b) (hL : ∀ k, k < L.length → -1 ≤ (L.getD k (0, 0)).1) (h8 : L.length ≤ 8) {j c : Nat} (hc : c < 64) :
    (outWord L born stay a h b j).testBit c = lineBit born stay (cntTo L a h b (64 * j + c) L.length) (bitw h (64 * j + c + 1)) := by
  have hs := cntW_says r hL (j := j) hc L.length (Nat.le_refl _) (by omega)
  have hle := cntTo_le L a h b (64 * j + c) L.length
  have h1 := accK_bit born stay (cntW_ok r j L.length) (shN_64 r.h 1 j) hc (by omega) hs (L.length + 1) (by omega)
  have e := shN_bit r.h (64 * j + c) 1
  unfold bitw at e
  rw [show (64 * j + c) / 64 = j from by omega, show (64 * j + c) % 64 = c from by omega] at e
  unfold outWord
  rw [h1, e]
  have : cntTo L a h b (64 * j + c) L.length < L.length + 1 := by omega
  simp only [this, decide_true, Bool.true_and]
  rfl
theorem outW_get (n : Nat) {j : Nat} (hj : j < (n + 63) / 64) : (outW L born stay a h b n).getD j 0 = outWord L born stay a h b j := by
  unfold outW
  rw [List.getD_eq_getElem?_getD, List.getElem?_map, List.getElem?_range hj, Option.map_some, Option.getD_some]
theorem outW_len (n : Nat) : (outW L born stay a h b n).length = (n + 63) / 64 := by unfold outW; simp
theorem maskW_len (n : Nat) (ws : List Nat) : (maskW n ws).length = ws.length := by
  unfold maskW
  split
  · rfl
  · rw [List.length_set]
/-- Word by word is bit by bit. -/
theorem line_eq (r : Rows64 a h b) (hL : ∀ k, k < L.length → -1 ≤ (L.getD k (0, 0)).1) (h8 : L.length ≤ 8) (n : Nat) : maskW n (outW L born stay a h b n) = pack (lineB L born stay a h b n) := by
  have hpl : (lineB L born stay a h b n).length = n := by unfold lineB; simp
  have hg := pack_good (lineB L born stay a h b n)
  rw [hpl] at hg
  have hget : ∀ j, j < (n + 63) / 64 → (maskW n (outW L born stay a h b n)).getD j 0 = if n % 64 ≠ 0 ∧ j = (n + 63) / 64 - 1 then outWord L born stay a h b j &&& (2 ^ (n % 64) - 1) else outWord L born stay a h b j := by
    intro j hj
    unfold maskW
    by_cases h0 : n % 64 = 0
    · rw [if_pos h0, if_neg (fun e => e.1 h0), outW_get n hj]
    · rw [if_neg h0, outW_len]
      by_cases hjl : j = (n + 63) / 64 - 1
      · subst hjl
        rw [if_pos ⟨h0, rfl⟩, getD_set_self (by rw [outW_len]; exact hj), outW_get n hj]
      · rw [if_neg (fun e => hjl e.2), getD_set_ne (fun e => hjl e.symm), outW_get n hj]
  have hout : ∀ j, ¬ j < (n + 63) / 64 → (maskW n (outW L born stay a h b n)).getD j 0 = 0 := fun j hj => by
    rw [List.getD_eq_getElem?_getD, List.getElem?_eq_none (by rw [maskW_len, outW_len]; omega), Option.getD_none]
  have hbit : ∀ i, bitw (maskW n (outW L born stay a h b n)) i = (decide (i < n) && lineBit born stay (cntTo L a h b i L.length) (bitw h (i + 1))) := by
    intro i
    unfold bitw
    by_cases hj : i / 64 < (n + 63) / 64
    · rw [hget _ hj]
      have hb := outWord_bit (born := born) (stay := stay) r hL h8 (j := i / 64) (c := i % 64) (by omega)
      rw [show 64 * (i / 64) + i % 64 = i from by omega] at hb
      by_cases hm : n % 64 ≠ 0 ∧ i / 64 = (n + 63) / 64 - 1
      · rw [if_pos hm, mask_bit, hb]
        have : decide (i % 64 < n % 64) = decide (i < n) := by
          rw [decide_eq_decide]
          omega
        rw [this]
        rfl
      · rw [if_neg hm, hb]
        have : i < n := by omega
        simp only [this, decide_true, Bool.true_and]
        rfl
    · rw [hout _ hj]
      have : ¬ i < n := by omega
      simp [this]
  refine RowGood.ext (n := n) ⟨by rw [maskW_len, outW_len], fun j => ?_, fun i hi => ?_⟩ hg fun i hi => ?_
  · by_cases hj : j < (n + 63) / 64
    · rw [hget _ hj]
      split
      · exact and_lt_U (outWord_lt r j)
      · exact outWord_lt r j
    · rw [hout _ hj]; show 0 < U; unfold U; omega
  · rw [hbit]
    have : ¬ i < n := by omega
    simp [this]
  · rw [hbit, pack_bit _ (by rw [hpl]; exact hi)]
    unfold lineB
    simp [hi]
end
end Go.RowBits
