import Derived.Test.YtigghbehnnghnaaRegInv
import Derived.Below
/- A drawn region's invariant, a property for each slot that its first operations write. Plain theory, no program. -/
namespace Go.RegInv
open Go Go.RowKit
def ILv (Pr : Nat → Value → World → Prop) (n : Nat) (W : World) (L : Nat → Bool) (vs : List Value) (w' : World) : Prop :=
  vs.length = n ∧ Below W.heap.size W w' ∧ ∀ i, i < n → L i = true → Pr i (vs.getD i undef) w'
theorem ILv.start (Pr : Nat → Value → World → Prop) (n : Nat) {W w' : World} {vs : List Value} (hv : vs.length = n) (hB : Below W.heap.size W w') : ILv Pr n W (fun _ => false) vs w' :=
  ⟨hv, hB, fun _ _ h => by cases h⟩
theorem ILv.step {Pr : Nat → Value → World → Prop} (mono : ∀ i v w1 w2, Pr i v w1 → Below w1.heap.size w1 w2 → Pr i v w2) {n : Nat} {W w' w'' : World} {L : Nat → Bool} {vs : List Value} (hv : vs.length = n) (hB : Below W.heap.size W w')
    (hP : ∀ i, i < n → L i = true → Pr i (vs.getD i undef) w') (i : Nat) (v : Value) (hb : Below w'.heap.size w' w'') (hi : Pr i v w'') :
    ILv Pr n W (fun j => decide (j = i) || L j) (vs.set i v) w'' := by
  refine ⟨by simpa using hv, ⟨hb.os.trans hB.os, hb.tape.trans hB.tape, hb.output.trans hB.output, Nat.le_trans hB.size hb.size, fun k hk => (hb.block k (Nat.lt_of_lt_of_le hk hB.size)).trans (hB.block k hk)⟩, fun j hj hl => ?_⟩
  by_cases e : j = i
  · subst e
    have : (vs.set j v).getD j undef = v := by simp [hv, hj]
    rw [this]
    exact hi
  · have e2 : (vs.set i v).getD j undef = vs.getD j undef := by
      have : i ≠ j := fun h => e h.symm
      simp [List.getD, this]
    rw [e2]
    have : L j = true := by simpa [e] using hl
    exact mono j _ _ _ (hP j hj this) hb
theorem list_fn {n : Nat} {vs : List Value} (h : vs.length = n) : ∃ us : Nat → Value, vs = (List.range n).map us := by
  refine ⟨fun j => vs.getD j undef, ?_⟩
  apply List.ext_getElem (by simpa using h)
  intro j h1 h2
  simp [h1]
end Go.RegInv
