import Derived.Maps.Keyed
import Derived.Maps.OwnSet
import Derived.Deep.OwnRows
/- A map of one's own as a list of its entries: looked up, and stored into. Over any program. -/
namespace Go.MapRaw
open Go Go.Maps Go.ChangeMaps Go.MapKept
set_option linter.unusedSimpArgs false
set_option linter.unusedVariables false
section
variable {P : Program} {k e t : TypeId} {w : World} {b : Nat}

/-- Block b is a map with these entries, each key one that may be. -/
def MapIs (P : Program) (k : TypeId) (w : World) (b : Nat) (l : List (Value × Value)) : Prop :=
  ∃ es clock, w.heap[b]? = some (.map es clock) ∧ es.toList.map (fun x => (x.key, x.val)) = l ∧ ∀ x ∈ es.toList, ∃ lit, keyOf P k x.key = some lit
theorem MapIs.lt {l : List (Value × Value)} (h : MapIs P k w b l) : b < w.heap.size := by
  obtain ⟨es, clock, hb, _⟩ := h
  exact (Array.getElem?_eq_some_iff.1 hb).1
theorem MapIs.grown {w' : World} {row : Option Nat} {l : List (Value × Value)} (h : MapIs P k w b l) (hg : w.grownBy w' row) (hne : some b ≠ row) : MapIs P k w' b l := by
  have hl := h.lt
  obtain ⟨es, clock, hb, h1, h2⟩ := h
  exact ⟨es, clock, (hg.block b hl hne).trans hb, h1, h2⟩
theorem MapIs.of_block {w' : World} {l : List (Value × Value)} (h : MapIs P k w b l) (hg : w'.heap[b]? = w.heap[b]?) : MapIs P k w' b l := by
  obtain ⟨es, clock, hb, h1, h2⟩ := h
  exact ⟨es, clock, hg.trans hb, h1, h2⟩
theorem MapIs.made (w : World) : MapIs P k (w.alloc (.map #[] 0)) w.heap.size [] := ⟨#[], 0, heap_alloc_new w _, rfl, fun x hx => by simp at hx⟩

theorem MapIs.hit {l : List (Value × Value)} (h : MapIs P k w b l) (K : Keyed P k) (ht : P.underlying t = some (.map k e)) {z : Value} (hz : (zeroValue e).run P w = .ok z w) {key v : Value} {kl : Lit} (hkey : keyOf P k key = some kl)
    (hin : (key, v) ∈ l) (hu : ∀ p ∈ l, p.1 = key → p.2 = v) (c : Bool) : (Instr.lookup t (.map (some b)) key c).run P w = .ok (if c then .tuple #[v, .bool true] else v) w := by
  obtain ⟨es, clock, hb, rfl, hks⟩ := h
  rcases K.find w hkey es.toList hks with ⟨h1, h2⟩ | ⟨j, e0, h1, h2, h3⟩
  · obtain ⟨x, hx, he⟩ := List.mem_map.1 hin
    exact absurd (by injection he) (h2 x hx)
  · have hm0 : e0 ∈ es.toList := List.mem_of_getElem? h2
    have hv : e0.val = v := hu (e0.key, e0.val) (List.mem_map.2 ⟨e0, hm0, rfl⟩) h3
    rw [hv] at h1
    cases c <;> simp [Instr.lookup, run_underlying ht, MapKept.run_getObj_map hb, K.check w _ hkey, h1, Result.andThen]
theorem MapIs.miss {l : List (Value × Value)} (h : MapIs P k w b l) (K : Keyed P k) (ht : P.underlying t = some (.map k e)) {z : Value} (hz : (zeroValue e).run P w = .ok z w) {key : Value} {kl : Lit} (hkey : keyOf P k key = some kl)
    (hno : ∀ p ∈ l, p.1 ≠ key) (c : Bool) : (Instr.lookup t (.map (some b)) key c).run P w = .ok (if c then .tuple #[z, .bool false] else z) w := by
  obtain ⟨es, clock, hb, rfl, hks⟩ := h
  rcases K.find w hkey es.toList hks with ⟨h1, h2⟩ | ⟨j, e0, h1, h2, h3⟩
  · cases c <;> simp [Instr.lookup, run_underlying ht, MapKept.run_getObj_map hb, K.check w _ hkey, h1, hz, Result.andThen]
  · exact absurd h3 (hno (e0.key, e0.val) (List.mem_map.2 ⟨e0, List.mem_of_getElem? h2, rfl⟩))
/-- A new key. -/
theorem MapIs.put {l : List (Value × Value)} (h : MapIs P k w b l) (K : Keyed P k) (ht : P.underlying t = some (.map k e)) {key : Value} {kl : Lit} (hkey : keyOf P k key = some kl) (val : Value) (hno : ∀ p ∈ l, p.1 ≠ key) :
    ∃ w', (Instr.mapUpdate t (.map (some b)) key val).run P w = .ok () w' ∧ MapIs P k w' b (l ++ [(key, val)]) ∧ w.grownBy w' (some b) := by
  obtain ⟨es, clock, hb, rfl, hks⟩ := h
  rcases K.find w hkey es.toList hks with ⟨h1, h2⟩ | ⟨j, e0, h1, h2, h3⟩
  · refine ⟨setBlock w b (.map (es.push ⟨key, val, clock⟩) (clock + 1)), ?_, ⟨_, _, heap_setBlock_same hb _, by simp, ?_⟩, ⟨rfl, rfl, rfl, by simp [setBlock], fun i _ hi => heap_setBlock_other hb _ (fun e => hi (by rw [e]))⟩⟩
    · simp [Instr.mapUpdate, run_underlying ht, MapKept.run_getObj_map hb, K.check w false hkey, h1, MapKept.run_setObj_map _ hb, Result.andThen, setBlock]
    · intro x hx
      simp only [Array.toList_push, List.mem_append, List.mem_singleton] at hx
      rcases hx with hx | rfl
      · exact hks x hx
      · exact ⟨kl, hkey⟩
  · exact absurd h3 (hno (e0.key, e0.val) (List.mem_map.2 ⟨e0, List.mem_of_getElem? h2, rfl⟩))
end
end Go.MapRaw
