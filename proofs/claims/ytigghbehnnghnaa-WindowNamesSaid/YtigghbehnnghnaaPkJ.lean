import Derived.Test.YtigghbehnnghnaaPkC
import Derived.Test.YtigghbehnnghnaaPkE
namespace Go.Proofs.Ytigghbehnnghnaa
open Go.RowKit Go.RowBits
set_option linter.unusedSimpArgs false
set_option linter.unusedVariables false

/-! ### The nine rows that packed.line looks at -/
theorem hasW_lt {w : World} {v : Value} {l : List Nat} (h : HasW w v l) (hl : 0 < l.length) : ∀ g, v.ownBlock = some g → g < w.heap.size := by
  obtain ⟨ad, cap, rfl, hc⟩ := h
  obtain ⟨g, o, rfl, c1⟩ := hc 0 hl
  intro g' hg'
  have : g = g' := by simpa [Value.ownBlock] using hg'
  subst this
  exact World.block_lt_of_cell? w _ c1
/-- What a store into block b leaves of a row elsewhere. -/
theorem HasW.stored {w : World} {v : Value} {l : List Nat} {b o : Nat} (h : HasW w v l) (hne : ∀ g p, v = .slice (some ⟨g, p, none⟩) l.length (match v with | .slice _ _ c => c | _ => 0) → g ≠ b) (u : Value) : HasW (w.setCell ⟨b, o, none⟩ u) v l := by
  obtain ⟨ad, cap, rfl, hc⟩ := h
  refine ⟨ad, cap, rfl, fun j hj => ?_⟩
  obtain ⟨g, p, rfl, c1⟩ := hc j hj
  refine ⟨g, p, rfl, ?_⟩
  have hgb : g ≠ b := hne g p rfl
  rw [← c1]
  exact World.cell?_of_block (a := ⟨g, p + j, none⟩) (heap_setCell_other w ⟨b, o, none⟩ g u hgb)
/-- The block of a slice (of any offset). -/
def blkOf : Value → Option Nat
  | .slice (some a) _ _ => some a.block
  | _ => none
theorem HasW.store {w : World} {v : Value} {l : List Nat} {b o : Nat} (h : HasW w v l) (hne : blkOf v ≠ some b) (u : Value) : HasW (w.setCell ⟨b, o, none⟩ u) v l :=
  h.stored (fun g p e => by rw [e] at hne; intro e'; exact hne (by rw [e']; rfl)) u
theorem HasW.blk_lt {w : World} {v : Value} {l : List Nat} (h : HasW w v l) (hl : 0 < l.length) {b : Nat} (hb : w.heap.size ≤ b) : blkOf v ≠ some b := by
  obtain ⟨ad, cap, rfl, hc⟩ := h
  obtain ⟨g, o, rfl, c1⟩ := hc 0 hl
  intro e
  have : g = b := Option.some.inj e
  have := World.block_lt_of_cell? w _ c1
  simp at this
  omega

structure SeenR (w : World) (b2 b4 A : Nat) (lf : List Value) (R : Nat → List Nat) (cnt : Nat) (sv : Nat → Value) (wr : World) : Prop where
  life : ∀ j, j < 3 → wr.cell? ⟨b2, j, none⟩ = lf[j]?
  res0 : wr.cell? ⟨b4, 0, none⟩ = some (.int .i64 0)
  res1 : wr.cell? ⟨b4, 1, none⟩ = some (.slice none 0 0)
  resf : ∀ o, wr.frozen? ⟨b4, o, none⟩ = false
  seen : ∀ j, j < 9 → wr.cell? ⟨A, j, none⟩ = some (sv j)
  seenf : ∀ j, wr.frozen? ⟨A, j, none⟩ = false
  has : ∀ j, j < cnt → HasW wr (sv j) (shN (R (j / 3)) (j % 3))
  off : ∀ j, j < cnt → blkOf (sv j) ≠ some A
  hB : Below w.heap.size w wr
  s2 : w.heap.size ≤ b2 ∧ b2 < b4 ∧ b4 < A ∧ A < wr.heap.size
theorem SeenR.below {w wr w' : World} {b2 b4 A : Nat} {lf : List Value} {R : Nat → List Nat} {cnt : Nat} {sv : Nat → Value} (h : SeenR w b2 b4 A lf R cnt sv wr) (hb : Below wr.heap.size wr w') : SeenR w b2 b4 A lf R cnt sv w' := by
  obtain ⟨h1, h2, h3, h4⟩ := h.s2
  have e : ∀ b o, b < wr.heap.size → w'.cell? ⟨b, o, none⟩ = wr.cell? ⟨b, o, none⟩ := fun b o hb' => hb.cell (p := ⟨b, o, none⟩) hb'
  have f : ∀ b o, b < wr.heap.size → w'.frozen? ⟨b, o, none⟩ = wr.frozen? ⟨b, o, none⟩ := fun b o hb' => hb.frozen (p := ⟨b, o, none⟩) hb'
  refine ⟨fun j hj => by rw [e _ _ (by omega)]; exact h.life j hj, by rw [e _ _ (by omega)]; exact h.res0, by rw [e _ _ (by omega)]; exact h.res1, fun o => by rw [f _ _ (by omega)]; exact h.resf o,
    fun j hj => by rw [e _ _ (by omega)]; exact h.seen j hj, fun j => by rw [f _ _ (by omega)]; exact h.seenf j, fun j hj => (h.has j hj).kept hb, h.off, below_then h.hB hb h.hB.size, h1, h2, h3, by have := hb.size; omega⟩
theorem cell_other {w : World} {b b' o o' : Nat} {u : Value} (h : b' ≠ b) : (w.setCell ⟨b, o, none⟩ u).cell? ⟨b', o', none⟩ = w.cell? ⟨b', o', none⟩ :=
  World.cell?_of_block (a := ⟨b', o', none⟩) (heap_setCell_other w ⟨b, o, none⟩ b' u h)
theorem frozen_other {w : World} {b b' o o' : Nat} {u : Value} (h : b' ≠ b) : (w.setCell ⟨b, o, none⟩ u).frozen? ⟨b', o', none⟩ = w.frozen? ⟨b', o', none⟩ :=
  World.frozen?_of_block (a := ⟨b', o', none⟩) (heap_setCell_other w ⟨b, o, none⟩ b' u h)
theorem SeenR.other {w wr : World} {b2 b4 A b o : Nat} {lf : List Value} {R : Nat → List Nat} {cnt : Nat} {sv : Nat → Value} (h : SeenR w b2 b4 A lf R cnt sv wr) (hb : A < b) (hoff : ∀ j, j < cnt → blkOf (sv j) ≠ some b) (u : Value) :
    SeenR w b2 b4 A lf R cnt sv (wr.setCell ⟨b, o, none⟩ u) := by
  obtain ⟨h1, h2, h3, h4⟩ := h.s2
  refine ⟨fun j hj => by rw [cell_other (by omega)]; exact h.life j hj, by rw [cell_other (by omega)]; exact h.res0, by rw [cell_other (by omega)]; exact h.res1, fun o => by rw [frozen_other (by omega)]; exact h.resf o,
    fun j hj => by rw [cell_other (by omega)]; exact h.seen j hj, fun j => by rw [frozen_other (by omega)]; exact h.seenf j, fun j hj => (h.has j hj).store (hoff j hj) u, h.off, h.hB.setCell (by simp; omega) _, h1, h2, h3, by simp [World.setCell]; exact h4⟩
theorem SeenR.put {w wr : World} {b2 b4 A : Nat} {lf : List Value} {R : Nat → List Nat} {cnt : Nat} {sv : Nat → Value} {v : Value} (h : SeenR w b2 b4 A lf R cnt sv wr) (hc : cnt < 9) (hv : HasW wr v (shN (R (cnt / 3)) (cnt % 3))) (hoff : blkOf v ≠ some A) :
    SeenR w b2 b4 A lf R (cnt + 1) (fun j => if j = cnt then v else sv j) (wr.setCell ⟨A, cnt, none⟩ v) := by
  obtain ⟨h1, h2, h3, h4⟩ := h.s2
  have hcur := h.seen cnt hc
  refine ⟨fun j hj => by rw [cell_other (by omega)]; exact h.life j hj, by rw [cell_other (by omega)]; exact h.res0, by rw [cell_other (by omega)]; exact h.res1, fun o => by rw [frozen_other (by omega)]; exact h.resf o,
    fun j hj => ?_, fun j => ?_, fun j hj => ?_, fun j hj => ?_, h.hB.setCell (by simp; omega) _, h1, h2, h3, by simp [World.setCell]; exact h4⟩
  · by_cases e : j = cnt
    · subst e
      simp only [if_true]
      go_simp
    · simp only [if_neg e]
      rw [← h.seen j hj]
      go_simp
  · have := h.seenf j
    go_simp
  · by_cases e : j = cnt
    · subst e
      simp only [if_true]
      exact hv.store hoff v
    · simp only [if_neg e]
      exact (h.has j (by omega)).store (h.off j (by omega)) v
  · by_cases e : j = cnt
    · subst e
      simp only [if_true]
      exact hoff
    · simp only [if_neg e]
      exact h.off j (by omega)
end Go.Proofs.Ytigghbehnnghnaa
