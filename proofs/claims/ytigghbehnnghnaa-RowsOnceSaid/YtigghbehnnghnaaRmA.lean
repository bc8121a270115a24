import Derived.Test.YtigghbehnnghnaaRlZ
import Derived.Lib.SlicesS
namespace Go.Proofs.Ytigghbehnnghnaa
open Go.RowKit Go.RowBits Go.MapRaw Go.Maps
set_option linter.unusedSimpArgs false
set_option linter.unusedVariables false

/-! ### Facts for RowsOnce and RowsSteps -/
theorem and510 (b j : Nat) (h1 : 8 < j) (h2 : j < 16) : (b &&& 510).testBit j = false := by
  rw [Nat.testBit_and]
  obtain rfl | rfl | rfl | rfl | rfl | rfl | rfl : j = 9 ∨ j = 10 ∨ j = 11 ∨ j = 12 ∨ j = 13 ∨ j = 14 ∨ j = 15 := by omega
  all_goals rw [show Nat.testBit 510 _ = false by decide, Bool.and_false]
theorem and511 (b j : Nat) (h1 : 8 < j) (h2 : j < 16) : (b &&& 511).testBit j = false := by
  rw [Nat.testBit_and]
  obtain rfl | rfl | rfl | rfl | rfl | rfl | rfl : j = 9 ∨ j = 10 ∨ j = 11 ∨ j = 12 ∨ j = 13 ∨ j = 14 ∨ j = 15 := by omega
  all_goals rw [show Nat.testBit 511 _ = false by decide, Bool.and_false]
theorem strip_of (born stay : Nat) (torus : Bool) (width : Int) : Strip 1 (born &&& 510) (stay &&& 511) (kindOf torus) ((wideOf width : Nat) : Int) := by
  have hw := wideOf_eq width
  have h1 : born &&& 510 ≤ 510 := Nat.and_le_right
  have h2 : stay &&& 511 ≤ 511 := Nat.and_le_right
  have hr : ruleOk 1 (born &&& 510) (stay &&& 511) := fun j hj hj2 => by
    rw [offs_1] at hj
    have : 8 < j := hj
    exact ⟨and510 _ _ this hj2, and511 _ _ this hj2⟩
  refine ⟨by omega, by omega, ?_, .inl rfl, hr, ?_, ?_, by omega⟩
  · unfold lifeE
    rw [if_pos (.inl rfl), if_pos hr]
  · rw [Nat.testBit_and, show Nat.testBit 510 0 = false by decide, Bool.and_false]
  · unfold kindOf
    cases torus <;> simp
theorem mem256 {r : List Nat} (h : ∀ j, r.getD j 0 < 2) : ∀ x ∈ r, x < 256 := fun x hx => by
  obtain ⟨i, hi, rfl⟩ := List.mem_iff_getElem.1 hx
  have := h i
  simp [hi] at this
  omega
theorem strv_guard (a b : List Nat) (x y : Operand) (W : World) : Sem.run Try.prog (eqGuard BinOp.eql 9 x y (strv a) (strv b)) W = .ok () W := rfl
theorem strv_eq (a : List Nat) (W : World) : Sem.run Try.prog (binOp BinOp.eql 9 (strv a) (strv a)) W = .ok (.bool true) W := by
  unfold strv
  go_simp
theorem strv_ne {a b : List Nat} (ha : ∀ j, a.getD j 0 < 2) (hb : ∀ j, b.getD j 0 < 2) (h : a ≠ b) (W : World) : Sem.run Try.prog (binOp BinOp.eql 9 (strv a) (strv b)) W = .ok (.bool false) W := by
  have hn : strv a ≠ strv b := fun e => h (strv_inj (mem256 ha) (mem256 hb) e)
  unfold strv at *
  generalize (⟨(a.map UInt8.ofNat).toArray⟩ : ByteArray) = s at *
  generalize (⟨(b.map UInt8.ofNat).toArray⟩ : ByteArray) = t at *
  have hst : ¬ s = t := fun e => hn (by rw [e])
  have hb : (s.toList == t.toList) = false := (Lib.bytes_beq_false_iff s t).2 hst
  rw [binOp_string_eql, hb]
  rfl
theorem errOf_lt {rows : List (List Nat)} {most : Nat} (r : List Nat) (h : rows.length < most) : errOf rows most r = 0 := by
  unfold errOf
  split
  · rfl
  · rw [if_neg (by omega)]
theorem errOf_mem {rows : List (List Nat)} (most : Nat) {r : List Nat} (h : r ∈ rows) : errOf rows most r = 0 := by unfold errOf; rw [if_pos h]
theorem after_mem {rows : List (List Nat)} (most : Nat) {r : List Nat} (h : r ∈ rows) : after rows most r = rows := by unfold after; rw [if_pos h]
theorem mem_after {rows : List (List Nat)} {most : Nat} {r : List Nat} (h : errOf rows most r = 0) : r ∈ after rows most r := by
  unfold errOf at h
  unfold after
  split
  · assumption
  · rename_i hm
    rw [if_neg hm] at h
    split
    · rename_i hl; rw [if_pos hl] at h; cases h
    · simp
theorem mem_after_of {rows : List (List Nat)} {most : Nat} {r s : List Nat} (h : s ∈ rows) : s ∈ after rows most r := by
  unfold after
  split
  · exact h
  · split
    · exact h
    · simp [h]
theorem idOf_mem {rows : List (List Nat)} (most : Nat) {r : List Nat} (h : r ∈ rows) : idOf rows most r = rows.idxOf r := by unfold idOf; rw [if_pos h]
theorem idOf_after {rows : List (List Nat)} {most : Nat} {r : List Nat} (h : errOf rows most r = 0) : idOf rows most r = (after rows most r).idxOf r := by
  unfold errOf at h
  unfold after idOf
  split
  · rfl
  · rename_i hm
    rw [if_neg hm] at h
    split
    · rename_i hl; rw [if_pos hl] at h; cases h
    · rw [List.idxOf_append, if_neg hm]
      simp
theorem idx_after {rows : List (List Nat)} {most : Nat} {r s : List Nat} (h : s ∈ rows) : (after rows most r).idxOf s = rows.idxOf s := by
  unfold after
  split
  · rfl
  · split
    · rfl
    · rw [List.idxOf_append, if_pos h]
theorem after_len1 (rows : List (List Nat)) (most : Nat) (r : List Nat) : (after rows most r).length ≤ rows.length + 1 := by
  unfold after
  split
  · omega
  · split
    · omega
    · simp
theorem after_most {rows : List (List Nat)} {most : Nat} (r : List Nat) (h : rows.length ≤ most) : (after rows most r).length ≤ most := by
  unfold after
  split
  · exact h
  · split
    · exact h
    · simp; omega
theorem idx_inj {rows : List (List Nat)} {a b : List Nat} (ha : a ∈ rows) (hb : b ∈ rows) (h : rows.idxOf a = rows.idxOf b) : a = b := by
  have e1 : rows[rows.idxOf a]'(List.idxOf_lt_length_iff.2 ha) = a := List.getElem_idxOf _
  have e2 : rows[rows.idxOf b]'(List.idxOf_lt_length_iff.2 hb) = b := List.getElem_idxOf _
  rw [← e1, ← e2]
  simp [h]
theorem idx_zero {rows : List (List Nat)} {a : List Nat} (h : 0 < rows.length) (h0 : rows.getD 0 [] = a) : rows.idxOf a = 0 := by
  cases rows with
  | nil => simp at h
  | cons x l =>
    have : x = a := by simpa using h0
    subst this
    exact List.idxOf_cons_self
theorem get_idx {rows : List (List Nat)} {a : List Nat} (ha : a ∈ rows) : rows.getD (rows.idxOf a) [] = a := by
  have h := List.idxOf_lt_length_iff.2 ha
  simp [h]
theorem idOf_le (rows : List (List Nat)) (most : Nat) (r : List Nat) : idOf rows most r ≤ rows.length := by
  unfold idOf
  split
  · rename_i h
    have := List.idxOf_lt_length_iff.2 h
    omega
  · split <;> omega
theorem errOf_or (rows : List (List Nat)) (most : Nat) (r : List Nat) : errOf rows most r = 0 ∨ (errOf rows most r = 4 ∧ most ≤ rows.length) := by
  unfold errOf
  split
  · exact .inl rfl
  · split
    · rename_i h; exact .inr ⟨rfl, h⟩
    · exact .inl rfl
end Go.Proofs.Ytigghbehnnghnaa
