import Derived.Maps.Keyed
import Derived.Maps.OwnSet
import Derived.Deep.OwnRows
import Derived.Test.YtcbhbojplcddkaaGreatDoorZDrA
import Derived.DeepKeys4
/- A map of one's own as a list of its entries: looked up, and stored into. Over any program. -/
namespace Go.MapRaw
open Go Go.Maps Go.ChangeMaps Go.MapKept
set_option linter.unusedSimpArgs false
set_option linter.unusedVariables false
section
variable {P : Program} {k e t : TypeId} {w : World} {b : Nat}

/-- Block b is a map with these entries, each key one that may be. -/
def MapIs (P : Program) (k : TypeId) (w : World) (b : Nat) (l : List (Value × Value)) : Prop :=
  ∃ es clock, w.heap[b]? = some (.map es clock) ∧ es.toList.map (fun x => (x.key, x.val)) = l ∧ ∀ x ∈ es.toList, ∃ lit, keyOf P k x.key = some lit
theorem MapIs.lt {l : List (Value × Value)} (h : MapIs P k w b l) : b < w.heap.size := by
  obtain ⟨es, clock, hb, _⟩ := h
  exact (Array.getElem?_eq_some_iff.1 hb).1
theorem MapIs.grown {w' : World} {row : Option Nat} {l : List (Value × Value)} (h : MapIs P k w b l) (hg : w.grownBy w' row) (hne : some b ≠ row) : MapIs P k w' b l := by
  have hl := h.lt
  obtain ⟨es, clock, hb, h1, h2⟩ := h
  exact ⟨es, clock, (hg.block b hl hne).trans hb, h1, h2⟩
theorem MapIs.of_block {w' : World} {l : List (Value × Value)} (h : MapIs P k w b l) (hg : w'.heap[b]? = w.heap[b]?) : MapIs P k w' b l := by
  obtain ⟨es, clock, hb, h1, h2⟩ := h
  exact ⟨es, clock, hg.trans hb, h1, h2⟩
theorem MapIs.made (w : World) : MapIs P k (w.alloc (.map #[] 0)) w.heap.size [] := ⟨#[], 0, heap_alloc_new w _, rfl, fun x hx => by simp at hx⟩

theorem MapIs.hit {l : List (Value × Value)} (h : MapIs P k w b l) (K : Keyed P k) (ht : P.underlying t = some (.map k e)) {z : Value} (hz : (zeroValue e).run P w = .ok z w) {key v : Value} {kl : Lit} (hkey : keyOf P k key = some kl)
    (hin : (key, v) ∈ l) (hu : ∀ p ∈ l, p.1 = key → p.2 = v) (c : Bool) : (Instr.lookup t (.map (some b)) key c).run P w = .ok (if c then .tuple #[v, .bool true] else v) w := by
  obtain ⟨es, clock, hb, rfl, hks⟩ := h
  rcases K.find w hkey es.toList hks with ⟨h1, h2⟩ | ⟨j, e0, h1, h2, h3⟩
  · obtain ⟨x, hx, he⟩ := List.mem_map.1 hin
    exact absurd (by injection he) (h2 x hx)
  · have hm0 : e0 ∈ es.toList := List.mem_of_getElem? h2
    have hv : e0.val = v := hu (e0.key, e0.val) (List.mem_map.2 ⟨e0, hm0, rfl⟩) h3
    rw [hv] at h1
    cases c <;> simp [Instr.lookup, run_underlying ht, MapKept.run_getObj_map hb, K.check w _ hkey, h1, Result.andThen]
theorem MapIs.miss {l : List (Value × Value)} (h : MapIs P k w b l) (K : Keyed P k) (ht : P.underlying t = some (.map k e)) {z : Value} (hz : (zeroValue e).run P w = .ok z w) {key : Value} {kl : Lit} (hkey : keyOf P k key = some kl)
    (hno : ∀ p ∈ l, p.1 ≠ key) (c : Bool) : (Instr.lookup t (.map (some b)) key c).run P w = .ok (if c then .tuple #[z, .bool false] else z) w := by
  obtain ⟨es, clock, hb, rfl, hks⟩ := h
  rcases K.find w hkey es.toList hks with ⟨h1, h2⟩ | ⟨j, e0, h1, h2, h3⟩
  · cases c <;> simp [Instr.lookup, run_underlying ht, MapKept.run_getObj_map hb, K.check w _ hkey, h1, hz, Result.andThen]
  · exact absurd h3 (hno (e0.key, e0.val) (List.mem_map.2 ⟨e0, List.mem_of_getElem? h2, rfl⟩))
/-- A new key. -/
theorem MapIs.put {l : List (Value × Value)} (h : MapIs P k w b l) (K : Keyed P k) (ht : P.underlying t = some (.map k e)) {key : Value} {kl : Lit} (hkey : keyOf P k key = some kl) (val : Value) (hno : ∀ p ∈ l, p.1 ≠ key) :
    ∃ w', (Instr.mapUpdate t (.map (some b)) key val).run P w = .ok () w' ∧ MapIs P k w' b (l ++ [(key, val)]) ∧ w.grownBy w' (some b) := by
  obtain ⟨es, clock, hb, rfl, hks⟩ := h
  rcases K.find w hkey es.toList hks with ⟨h1, h2⟩ | ⟨j, e0, h1, h2, h3⟩
  · refine ⟨setBlock w b (.map (es.push ⟨key, val, clock⟩) (clock + 1)), ?_, ⟨_, _, heap_setBlock_same hb _, by simp, ?_⟩, ⟨rfl, rfl, rfl, by simp [setBlock], fun i _ hi => heap_setBlock_other hb _ (fun e => hi (by rw [e]))⟩⟩
    · simp [Instr.mapUpdate, run_underlying ht, MapKept.run_getObj_map hb, K.check w false hkey, h1, MapKept.run_setObj_map _ hb, Result.andThen, setBlock]
    · intro x hx
      simp only [Array.toList_push, List.mem_append, List.mem_singleton] at hx
      rcases hx with hx | rfl
      · exact hks x hx
      · exact ⟨kl, hkey⟩
  · exact absurd h3 (hno (e0.key, e0.val) (List.mem_map.2 ⟨e0, List.mem_of_getElem? h2, rfl⟩))
end
end Go.MapRaw
namespace Go.Proofs.YtcbhbojplcddkaaGreatDoor
open Go.RowKit Go.RowBits Go.MapRaw Go.Maps
set_option linter.unusedSimpArgs false
set_option linter.unusedVariables false

/-! ### What a rule was asked: the memory's keys -/
theorem laidOutS : laidOutB Tryz.prog = true := by kernel_rfl
theorem wide140 : (match Tryz.prog.underlying 140 with | some (.array _ _) | some (.struct _) => true | _ => false) = true := by rw [Tryz.underlying140]
theorem row140 : 140 < Tryz.prog.types.size := of_decide_eq_true (by kernel_rfl)
set_option maxRecDepth 100000 in
theorem key140 : Keyed Tryz.prog 140 := Keyed.of_law (deep_law_laid laidOutS (m := 3) (by omega) row140 (by kernel_rfl) wide140)
/-- The key of what is asked. -/
abbrev askKey (c : Nat) (l : List Nat) : Value := .agg #[.int .u8 (c : Int), .int .i64 (l.length : Int), yv (l.getD 0 0), yv (l.getD 1 0), yv (l.getD 2 0), yv (l.getD 3 0), yv (l.getD 4 0), yv (l.getD 5 0), yv (l.getD 6 0), yv (l.getD 7 0)]
theorem yv_inj {a b : Nat} (h : yv a = yv b) : a = b := by
  unfold yv at h
  injection h with _ h
  omega
theorem askKey_inj {c c' : Nat} {l l' : List Nat} (hl : l.length ≤ 8) (h : askKey c l = askKey c' l') : c = c' ∧ l = l' := by
  injection h with h
  injection h with h
  simp only [List.cons.injEq, and_true] at h
  obtain ⟨h0, h1, q0, q1, q2, q3, q4, q5, q6, q7⟩ := h
  injection h0 with _ h0
  injection h1 with _ h1
  have hlen : l.length = l'.length := by omega
  refine ⟨by omega, extY hlen fun j hj => ?_⟩
  have hj8 : j < 8 := by omega
  match j, hj8 with
  | 0, _ => exact yv_inj q0
  | 1, _ => exact yv_inj q1
  | 2, _ => exact yv_inj q2
  | 3, _ => exact yv_inj q3
  | 4, _ => exact yv_inj q4
  | 5, _ => exact yv_inj q5
  | 6, _ => exact yv_inj q6
  | 7, _ => exact yv_inj q7
theorem cells140 : Tryz.prog.cellsOf 140 = 10 := by kernel_rfl
theorem cells138 : Tryz.prog.cellsOf 138 = 8 := by kernel_rfl
theorem cells3q : Tryz.prog.cellsOf 3 = 1 := by kernel_rfl
theorem cells5q : Tryz.prog.cellsOf 5 = 1 := by kernel_rfl
theorem keyType140 : Tryz.prog.keyType 140 = true := by kernel_rfl
theorem keyOfQ {c : Nat} {l : List Nat} (hc : c < 256) (hl : l.length ≤ 8) (hs : ∀ j, l.getD j 0 < 256) : ∃ q, keyOf Tryz.prog 140 (askKey c l) = some q := by
  obtain ⟨m, hm⟩ : ∃ m, Tryz.prog.types.size = m + 2 := ⟨Tryz.prog.types.size - 2, by have := row140; omega⟩
  have hw : ∀ x : Nat, x < 256 → (Lit.int .u8 (x : Int)).wf = true := fun x hx => by simp [Lit.wf, IntKind.min, IntKind.max, IntKind.signed, IntKind.bits]; omega
  have hw2 : (Lit.int .i64 (l.length : Int)).wf = true := by simp [Lit.wf, IntKind.min, IntKind.max, IntKind.signed, IntKind.bits]; omega
  have s0 := hw _ (hs 0)
  have s1 := hw _ (hs 1)
  have s2 := hw _ (hs 2)
  have s3 := hw _ (hs 3)
  have s4 := hw _ (hs 4)
  have s5 := hw _ (hs 5)
  have s6 := hw _ (hs 6)
  have s7 := hw _ (hs 7)
  have sc := hw _ hc
  clear hw hs hc
  change ∃ q, keyOf Tryz.prog 140 (.agg #[.int .u8 (c : Int), .int .i64 (l.length : Int), yv (l.getD 0 0), yv (l.getD 1 0), yv (l.getD 2 0), yv (l.getD 3 0), yv (l.getD 4 0), yv (l.getD 5 0), yv (l.getD 6 0), yv (l.getD 7 0)]) = some q
  generalize l.getD 0 0 = x0 at *
  generalize l.getD 1 0 = x1 at *
  generalize l.getD 2 0 = x2 at *
  generalize l.getD 3 0 = x3 at *
  generalize l.getD 4 0 = x4 at *
  generalize l.getD 5 0 = x5 at *
  generalize l.getD 6 0 = x6 at *
  generalize l.getD 7 0 = x7 at *
  have hf : (Value.agg #[.int .u8 (c : Int), .int .i64 (l.length : Int), yv x0, yv x1, yv x2, yv x3, yv x4, yv x5, yv x6, yv x7]).formed Tryz.prog 140 = true := by simp [Value.formed, Tryz.underlying140, cells140]
  unfold keyOf
  rw [Tryz.underlying140]
  simp only [keyType140, hf, Bool.and_self, if_true]
  rw [hm]
  simp [Program.keyLits, Tryz.underlying140, Tryz.underlying138, Tryz.underlying3, Tryz.underlying5, cells140, cells138, cells3q, cells5q, s0, s1, s2, s3, s4, s5, s6, s7, sc, hw2, List.range_succ, Value.cells, yv]
end Go.Proofs.YtcbhbojplcddkaaGreatDoor
