import Derived.Laws.BitsAllLaws
/- Rows of bits in words of 64: plain theory, no program. -/
namespace Go.RowBits
abbrev U : Nat := 18446744073709551616

theorem U_eq : U = 2 ^ 64 := by decide
/-- The bit at place i. -/
def bitw (ws : List Nat) (i : Nat) : Bool := (ws.getD (i / 64) 0).testBit (i % 64)
/-- All words are words of 64 bits. -/
def W64 (ws : List Nat) : Prop := ∀ j, ws.getD j 0 < U
/-- A row of n bits that may be. -/
structure RowGood (n : Nat) (ws : List Nat) : Prop where
  len : ws.length = (n + 63) / 64
  w64 : W64 ws
  top : ∀ i, n ≤ i → bitw ws i = false

theorem word_ext {a b : Nat} (ha : a < U) (hb : b < U) (h : ∀ i, i < 64 → a.testBit i = b.testBit i) : a = b := by
  apply Nat.eq_of_testBit_eq
  intro i
  by_cases hi : i < 64
  · exact h i hi
  · have e : ∀ x, x < U → x.testBit i = false := fun x hx => by
      apply Nat.testBit_lt_two_pow
      exact Nat.lt_of_lt_of_le (by rw [← U_eq]; exact hx) (Nat.pow_le_pow_right (by decide) (by omega))
    rw [e a ha, e b hb]
theorem RowGood.ext {n : Nat} {a b : List Nat} (ha : RowGood n a) (hb : RowGood n b) (h : ∀ i, i < n → bitw a i = bitw b i) : a = b := by
  apply List.ext_getElem
  · rw [ha.len, hb.len]
  · intro j h1 h2
    have e1 : a.getD j 0 = a[j] := by rw [List.getD_eq_getElem?_getD, List.getElem?_eq_getElem h1, Option.getD_some]
    have e2 : b.getD j 0 = b[j] := by rw [List.getD_eq_getElem?_getD, List.getElem?_eq_getElem h2, Option.getD_some]
    rw [← e1, ← e2]
    apply word_ext (ha.w64 j) (hb.w64 j)
    intro i hi
    have d1 : (64 * j + i) / 64 = j := by omega
    have d2 : (64 * j + i) % 64 = i := by omega
    have key : bitw a (64 * j + i) = bitw b (64 * j + i) := by
      by_cases hn : 64 * j + i < n
      · exact h _ hn
      · rw [ha.top _ (by omega), hb.top _ (by omega)]
    unfold bitw at key
    rw [d1, d2] at key
    exact key
theorem bitw_out {n : Nat} {ws : List Nat} (h : ws.length = (n + 63) / 64) {i : Nat} (hi : 64 * ws.length ≤ i) : bitw ws i = false := by
  unfold bitw
  rw [List.getD_eq_getElem?_getD, List.getElem?_eq_none (by omega)]
  simp
/-- What the top word says. -/
theorem good_iff {n : Nat} {ws : List Nat} (hl : ws.length = (n + 63) / 64) (hw : W64 ws) : RowGood n ws ↔ ∀ i, n ≤ i → i < 64 * ws.length → bitw ws i = false :=
  ⟨fun h i hi _ => h.top i hi, fun h => ⟨hl, hw, fun i hi => by
    by_cases e : i < 64 * ws.length
    · exact h i hi e
    · exact bitw_out hl (by omega)⟩⟩

/-! ### One place down -/
def downW (ws : List Nat) : List Nat := (List.range ws.length).map fun j => ws.getD j 0 / 2 + (ws.getD (j + 1) 0 % 2) * 9223372036854775808
theorem downW_len (ws : List Nat) : (downW ws).length = ws.length := by simp [downW]
theorem downW_get (ws : List Nat) {j : Nat} (hj : j < ws.length) : (downW ws).getD j 0 = ws.getD j 0 / 2 + (ws.getD (j + 1) 0 % 2) * 9223372036854775808 := by
  unfold downW
  rw [List.getD_eq_getElem?_getD, List.getElem?_map, List.getElem?_range hj, Option.map_some, Option.getD_some]
theorem downW_64 {ws : List Nat} (h : W64 ws) : W64 (downW ws) := by
  intro j
  by_cases hj : j < ws.length
  · rw [downW_get ws hj]
    have := h j
    unfold U at *
    omega
  · rw [List.getD_eq_getElem?_getD, List.getElem?_eq_none (by rw [downW_len]; omega)]
    show 0 < U
    unfold U
    omega
theorem downW_bit {ws : List Nat} (h : W64 ws) (i : Nat) : bitw (downW ws) i = bitw ws (i + 1) := by
  by_cases hj : i / 64 < ws.length
  · unfold bitw
    rw [downW_get ws hj]
    have h0 := h (i / 64)
    obtain ⟨a, ha⟩ : ∃ a, ws.getD (i / 64) 0 = a := ⟨_, rfl⟩
    rw [ha] at h0 ⊢
    have hlt : a / 2 < 2 ^ 63 := by unfold U at h0; omega
    have e : a / 2 + (ws.getD (i / 64 + 1) 0 % 2) * 9223372036854775808 = 2 ^ 63 * (ws.getD (i / 64 + 1) 0 % 2) + a / 2 := by
      rw [Nat.add_comm, Nat.mul_comm]
    rw [e, Nat.testBit_two_pow_mul_add _ hlt]
    by_cases hi : i % 64 < 63
    · rw [if_pos hi, show (i + 1) / 64 = i / 64 from by omega, show (i + 1) % 64 = i % 64 + 1 from by omega, ha, Nat.testBit_succ]
    · rw [if_neg hi, show (i + 1) / 64 = i / 64 + 1 from by omega, show (i + 1) % 64 = 0 from by omega, show i % 64 = 63 from by omega]
      simp [Nat.testBit_zero]
  · have e1 : (downW ws).getD (i / 64) 0 = 0 := by
      rw [List.getD_eq_getElem?_getD, List.getElem?_eq_none (by rw [downW_len]; omega)]; rfl
    have e2 : ws.getD ((i + 1) / 64) 0 = 0 := by
      rw [List.getD_eq_getElem?_getD, List.getElem?_eq_none (by omega)]; rfl
    unfold bitw
    rw [e1, e2]
    simp
theorem downW_good {n : Nat} {ws : List Nat} (h : RowGood n ws) : RowGood n (downW ws) :=
  ⟨by rw [downW_len, h.len], downW_64 h.w64, fun i hi => by rw [downW_bit h.w64, h.top _ (by omega)]⟩

/-! ### The vertical counter: four words that count in twos, place by place -/
structure Cnt where
  a : Nat
  b : Nat
  c : Nat
  d : Nat
def Cnt.add (s : Cnt) (w : Nat) : Cnt := ⟨s.a ^^^ w, s.b ^^^ (s.a &&& w), s.c ^^^ (s.b &&& (s.a &&& w)), s.d ||| (s.c &&& (s.b &&& (s.a &&& w)))⟩
/-- The place j of the counter says n. -/
def Cnt.says (s : Cnt) (j n : Nat) : Prop := s.a.testBit j = n.testBit 0 ∧ s.b.testBit j = n.testBit 1 ∧ s.c.testBit j = n.testBit 2 ∧ s.d.testBit j = n.testBit 3
theorem Cnt.says_zero (j : Nat) : (Cnt.mk 0 0 0 0).says j 0 := by simp [Cnt.says]
theorem Cnt.says_add {s : Cnt} {j n : Nat} (h : s.says j n) (hn : n < 15) (w : Nat) : (s.add w).says j (n + (w.testBit j).toNat) := by
  obtain ⟨h1, h2, h3, h4⟩ := h
  unfold Cnt.says Cnt.add
  simp only [Nat.testBit_xor, Nat.testBit_and, Nat.testBit_or, h1, h2, h3, h4]
  have key : ∀ (n : Fin 15) (b : Bool), ((n.val.testBit 0) ^^ b) = (n.val + b.toNat).testBit 0 ∧ ((n.val.testBit 1) ^^ (n.val.testBit 0 && b)) = (n.val + b.toNat).testBit 1 ∧
      ((n.val.testBit 2) ^^ (n.val.testBit 1 && (n.val.testBit 0 && b))) = (n.val + b.toNat).testBit 2 ∧ ((n.val.testBit 3) || (n.val.testBit 2 && (n.val.testBit 1 && (n.val.testBit 0 && b)))) = (n.val + b.toNat).testBit 3 := by decide
  exact key ⟨n, hn⟩ _
theorem Cnt.says_inj {s : Cnt} {j n m : Nat} (h : s.says j n) (hn : n < 16) (hm : m < 16) : s.says j m ↔ n = m := by
  constructor
  · intro k
    obtain ⟨h1, h2, h3, h4⟩ := h
    obtain ⟨k1, k2, k3, k4⟩ := k
    have key : ∀ (n m : Fin 16), n.val.testBit 0 = m.val.testBit 0 → n.val.testBit 1 = m.val.testBit 1 → n.val.testBit 2 = m.val.testBit 2 → n.val.testBit 3 = m.val.testBit 3 → n = m := by decide
    have := key ⟨n, hn⟩ ⟨m, hm⟩ (h1.symm.trans k1) (h2.symm.trans k2) (h3.symm.trans k3) (h4.symm.trans k4)
    exact congrArg Fin.val this
  · rintro rfl; exact h
end Go.RowBits
