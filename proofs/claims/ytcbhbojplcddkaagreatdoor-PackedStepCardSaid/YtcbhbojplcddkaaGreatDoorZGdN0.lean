import Derived.Test.YtcbhbojplcddkaaGreatDoorZGdK
namespace Go.Proofs.YtcbhbojplcddkaaGreatDoor
open Go.RowKit Go.RowBits Go.Shelf
/-! ### The cells of a line that are alive (packed.Run): plain theory -/
def mk1 (w : Nat) (pre : List Nat) : List Nat := (List.range w).map fun x => if x ∈ pre then 1 else 0
theorem mk1_len (w : Nat) (pre : List Nat) : (mk1 w pre).length = w := by unfold mk1; simp
theorem mk1_getD {w x : Nat} (pre : List Nat) (h : x < w) : (mk1 w pre).getD x 0 = if x ∈ pre then 1 else 0 := by
  unfold mk1
  rw [List.getD, List.getElem?_map, List.getElem?_range h]
  rfl
theorem mk1_nil (w : Nat) : mk1 w [] = List.replicate w 0 := by
  apply List.ext_getElem (by rw [mk1_len]; simp)
  intro i h1 h2
  unfold mk1
  simp
theorem mk1_set (w x : Nat) (pre : List Nat) : (mk1 w pre).set x 1 = mk1 w (pre ++ [x]) := by
  apply List.ext_getElem (by rw [List.length_set, mk1_len, mk1_len])
  intro i h1 h2
  rw [List.getElem_set]
  unfold mk1
  simp only [List.getElem_map, List.getElem_range, List.mem_append, List.mem_singleton]
  by_cases e : x = i
  · subst e; simp
  · rw [if_neg e]
    by_cases m : i ∈ pre
    · rw [if_pos m, if_pos (.inl m)]
    · rw [if_neg m, if_neg (by
        rintro (q | q)
        · exact m q
        · exact e q.symm)]
theorem mem_posL {ws : List Nat} {n x : Nat} : x ∈ posL ws n ↔ x < n ∧ bitw ws x = true := by
  unfold posL
  simp
theorem mk1_posL {bs : List Bool} {w x : Nat} (hl : bs.length = w) (h : x < w) : (mk1 w (posL (pack bs) w)).getD x 0 = (bs.getD x false).toNat := by
  rw [mk1_getD _ h]
  have hb := pack_bit bs (i := x) (by omega)
  by_cases m : x ∈ posL (pack bs) w
  · rw [if_pos m, ← hb, (mem_posL.1 m).2]; rfl
  · rw [if_neg m]
    have : bitw (pack bs) x = false := by
      cases e : bitw (pack bs) x with
      | false => rfl
      | true => exact absurd (mem_posL.2 ⟨h, e⟩) m
    rw [← hb, this]; rfl
theorem mk1_lt {w x : Nat} (pre : List Nat) : (mk1 w pre).getD x 0 < 2 := by
  by_cases h : x < w
  · rw [mk1_getD pre h]; split <;> omega
  · rw [List.getD, List.getElem?_eq_none (by rw [mk1_len]; omega)]; decide
/-- What the loop over the line's bits carries. -/
def BitI (W9 : World) (gc w D : Nat) (pre : List Nat) (W : World) : Prop := YBlk W gc (mk1 w pre) ∧ W9.grownBy W (some gc) ∧ D ≤ W.heap.size
end Go.Proofs.YtcbhbojplcddkaaGreatDoor
