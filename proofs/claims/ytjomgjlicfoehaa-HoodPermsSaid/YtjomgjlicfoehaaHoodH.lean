import Derived.Test.YtjomgjlicfoehaaHoodD
import Derived.Test.YtjomgjlicfoehaaIsoS
import Derived.Deep.OwnRows
namespace Go.Proofs.Ytjomgjlicfoehaa
open Go.RowKit Flt
attribute [local go_sem] run_store_float run_store_complex unary_neg_float unary_neg_complex
set_option linter.unusedSimpArgs false
set_option linter.unusedVariables false

/-- Where the linear part p takes a place. -/
def turn (p : Nat) (q : Int × Int) : Int × Int := (dox (p % 4) (decide (4 ≤ p)) 0 q.1 q.2, doy (p % 4) (decide (4 ≤ p)) 0 q.1 q.2)
def pidx (q : Int × Int) : Nat := (q.1 + 1 + 3 * (q.2 + 1)).toNat
/-- The table of 9 behind k places. -/
def tabL (L : List (Int × Int)) : Nat → List Int
  | 0 => List.replicate 9 0
  | k + 1 => (tabL L k).set (pidx (L.getD k (0, 0))) ((k : Int) + 1)
/-- The answer behind k places. -/
def outL (L : List (Int × Int)) (p : Nat) : Nat → List Int
  | 0 => List.replicate L.length 0
  | k + 1 => (outL L p k).set k (L.idxOf (turn p (L.getD k (0, 0))) : Int)
def keptB (L : List (Int × Int)) (p : Nat) : Bool := L.all fun q => L.contains (turn p q)
def permL (L : List (Int × Int)) (p : Nat) : List Int := if keptB L p then L.map (fun q => (L.idxOf (turn p q) : Int)) else []

/-- One step around (0, 0). -/
def near1 (q : Int × Int) : Prop := -1 ≤ q.1 ∧ q.1 ≤ 1 ∧ -1 ≤ q.2 ∧ q.2 ≤ 1
instance (q : Int × Int) : Decidable (near1 q) := by unfold near1; infer_instance
structure HoodFacts (L : List (Int × Int)) (p : Nat) : Prop where
  len : L.length ≤ 8
  near : ∀ k, k < L.length → near1 (L.getD k (0, 0)) ∧ near1 (turn p (L.getD k (0, 0)))
  tab : ∀ k, k < L.length → (tabL L L.length).getD (pidx (turn p (L.getD k (0, 0)))) 0 = if L.contains (turn p (L.getD k (0, 0))) then (L.idxOf (turn p (L.getD k (0, 0))) : Int) + 1 else 0
  out : keptB L p = true → outL L p L.length = permL L p
theorem facts_of {L : List (Int × Int)} (h1 : L.length ≤ 8) (h2 : ∀ (p : Fin 8) (k : Fin 8), k.val < L.length → near1 (L.getD k.val (0, 0)) ∧ near1 (turn p.val (L.getD k.val (0, 0))))
    (h3 : ∀ (p : Fin 8) (k : Fin 8), k.val < L.length → (tabL L L.length).getD (pidx (turn p.val (L.getD k.val (0, 0)))) 0 = if L.contains (turn p.val (L.getD k.val (0, 0))) then (L.idxOf (turn p.val (L.getD k.val (0, 0))) : Int) + 1 else 0)
    (h4 : ∀ p : Fin 8, keptB L p.val = true → outL L p.val L.length = permL L p.val) {p : Nat} (hp : p < 8) : HoodFacts L p :=
  ⟨h1, fun k hk => h2 ⟨p, hp⟩ ⟨k, by omega⟩ hk, fun k hk => h3 ⟨p, hp⟩ ⟨k, by omega⟩ hk, h4 ⟨p, hp⟩⟩
theorem hoodFacts {h : Int} (hh : h = 1 ∨ h = 2 ∨ h = 3) {p : Nat} (hp : p < 8) : HoodFacts (offs h) p := by
  rcases hh with rfl | rfl | rfl
  · rw [offs_1]; exact facts_of (by decide) (by decide +kernel) (by decide +kernel) (by decide +kernel) hp
  · rw [offs_2]; exact facts_of (by decide) (by decide +kernel) (by decide +kernel) (by decide +kernel) hp
  · rw [offs_3]; exact facts_of (by decide) (by decide +kernel) (by decide +kernel) (by decide +kernel) hp
theorem outL_len (L : List (Int × Int)) (p : Nat) : ∀ k, (outL L p k).length = L.length
  | 0 => by simp [outL]
  | k + 1 => by simp [outL, outL_len L p k]
theorem tabL_len (L : List (Int × Int)) : ∀ k, (tabL L k).length = 9
  | 0 => by simp [tabL]
  | k + 1 => by simp [tabL, tabL_len L k]

/-- The table in memory. -/
def Tab (w : World) (T : Nat) (l : List Int) : Prop := l.length = 9 ∧ (∀ j, j < 9 → w.cell? ⟨T, j, none⟩ = some (.int .i64 (l.getD j 0))) ∧ ∀ o, w.frozen? ⟨T, o, none⟩ = false
theorem Tab.kept {w w' : World} {T N : Nat} {l : List Int} (h : Tab w T l) (hb : Below N w w') (hT : T < N) : Tab w' T l :=
  ⟨h.1, fun j hj => (hb.cell (p := ⟨T, j, none⟩) hT).trans (h.2.1 j hj), fun o => (hb.frozen (p := ⟨T, o, none⟩) hT).trans (h.2.2 o)⟩
theorem Tab.set {w : World} {T c : Nat} {l : List Int} (h : Tab w T l) (hc : c < 9) (u : Int) : Tab (w.setCell ⟨T, c, none⟩ (.int .i64 u)) T (l.set c u) := by
  refine ⟨by rw [List.length_set]; exact h.1, fun j hj => ?_, fun o' => ?_⟩
  · have h0 := h.2.1 j hj
    have hc0 := h.2.1 c hc
    by_cases e : j = c
    · subst e
      have : (l.set j u).getD j 0 = u := by simp [h.1, hj]
      rw [this]
      go_simp
    · have : (l.set c u).getD j 0 = l.getD j 0 := by simp [List.getElem?_set, Ne.symm e]
      rw [this, ← h0]
      go_simp
  · have h0 := h.2.2 o'
    go_simp
theorem Tab.step {w : World} {T c : Nat} {l : List Int} (h : Tab w T l) (o : Obj) (hc : c < 9) (u : Int) : Tab ((w.alloc o).setCell ⟨T, c, none⟩ (.int .i64 u)) T (l.set c u) :=
  Tab.set (h.kept (below_new o) (World.block_lt_of_cell? w ⟨T, 0, none⟩ (h.2.1 0 (by omega)))) hc u
theorem HasPts.keptB {w w' : World} {N : Nat} {v : Value} {l : List (Int × Int)} (h : HasPts w v l) (hb : Below N w w') (hN : w.heap.size ≤ N) : HasPts w' v l := by
  obtain ⟨ad, cap, hv, hc⟩ := h
  refine ⟨ad, cap, hv, fun j hj => ?_⟩
  obtain ⟨g, hg, c1, c2⟩ := hc j hj
  have hl := World.block_lt_of_cell? w _ c1
  exact ⟨g, hg, (hb.cell (p := ⟨g, j * 2, none⟩) (Nat.lt_of_lt_of_le hl hN)).trans c1, (hb.cell (p := ⟨g, j * 2 + 1, none⟩) (Nat.lt_of_lt_of_le hl hN)).trans c2⟩

theorem info3' : (Try.prog.info? 3).map (fun i => (i.zero, i.size, i.bytes)) = some (some (.int .i64 0), 1, 8) := by kernel_rfl
end Go.Proofs.Ytjomgjlicfoehaa
