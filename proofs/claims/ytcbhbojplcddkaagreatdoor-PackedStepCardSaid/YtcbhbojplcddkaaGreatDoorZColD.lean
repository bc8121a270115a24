import Derived.RangeFuncNested
import Derived.RangeFuncLeaves
import Derived.RangeFuncBox
import Derived.Below
/- A frame that has collected the records of many loops over a function. Plain theory, no program. -/
namespace Go.ColD
open Go Go.RowKit
variable {P : Program} {F : Fence} {n : Nat}
def colD (D : Nat) : Deferred := { target := .collected D, args := #[] }
/-- The records of the loops that are over: each its own block from D0 on, each empty. -/
structure Coll (D0 : Nat) (Ds : List Nat) (w : World) : Prop where
  nodup : Ds.Nodup
  held : ∀ D ∈ Ds, D0 ≤ D ∧ w.heap[D]? = some (.deferred (some []))
theorem Coll.nil (D0 : Nat) (w : World) : Coll D0 [] w := ⟨List.nodup_nil, fun D h => by cases h⟩
theorem Coll.kept {D0 : Nat} {Ds : List Nat} {w w' : World} (h : Coll D0 Ds w) (hb : ∀ k o, w.heap[k]? = some o → o.isCells = false → D0 ≤ k → w'.heap[k]? = some o) : Coll D0 Ds w' :=
  ⟨h.nodup, fun D hD => ⟨(h.held D hD).1, hb D _ (h.held D hD).2 rfl (h.held D hD).1⟩⟩
theorem Coll.cons {D0 D : Nat} {Ds : List Nat} {w : World} (h : Coll D0 Ds w) (hn : D ∉ Ds) (h0 : D0 ≤ D) (hK : w.heap[D]? = some (.deferred (some []))) : Coll D0 (D :: Ds) w :=
  ⟨List.nodup_cons.2 ⟨hn, h.nodup⟩, fun E hE => by
    rcases List.mem_cons.1 hE with rfl | hE
    · exact ⟨h0, hK⟩
    · exact h.held E hE⟩
/-- What the frame's way out leaves. -/
structure Shut (Ds : List Nat) (w w' : World) : Prop where
  os : w'.os = w.os
  tape : w'.tape = w.tape
  output : w'.output = w.output
  size : w.heap.size ≤ w'.heap.size
  block : ∀ k, k ∉ Ds → w'.heap[k]? = w.heap[k]?
theorem Shut.refl (Ds : List Nat) (w : World) : Shut Ds w w := ⟨rfl, rfl, rfl, Nat.le_refl _, fun _ _ => rfl⟩
theorem leaves_coll {fn : Func} {tmps : Array Value} {R : Ending → World → Prop} {D0 : Nat} : ∀ (Ds : List Nat) (w : World), Coll D0 Ds w → (∀ w', Shut Ds w w' → LeavesIn F n P fn tmps R [] .returning w') → LeavesInM F n P fn tmps R (Ds.map colD) .returning w
  | [], w, _, h => h w (Shut.refl _ _)
  | D :: Ds, w, hc, h => by
    obtain ⟨hn, hd⟩ := List.nodup_cons.1 hc.nodup
    have hK := (hc.held D (by simp)).2
    have hlt := (Array.getElem?_eq_some_iff.1 hK).1
    refine ⟨by simp, .inl ⟨D, _, rfl, run_takeDeferred hK, leaves_coll (D0 := D0) Ds _ ⟨hd, fun E hE => ?_⟩ fun w' hw => h w' ?_⟩⟩
    · obtain ⟨h1, h2⟩ := hc.held E (List.mem_cons_of_mem _ hE)
      exact ⟨h1, (World.putObj_heap_other (by rintro rfl; exact hn hE)).trans h2⟩
    · refine ⟨hw.os, hw.tape, hw.output, Nat.le_trans (by simp) hw.size, fun k hk => ?_⟩
      rw [List.mem_cons, not_or] at hk
      exact (hw.block k hk.2).trans (World.putObj_heap_other hk.1)
end Go.ColD
