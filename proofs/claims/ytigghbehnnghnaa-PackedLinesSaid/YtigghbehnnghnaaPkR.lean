import Derived.Test.YtigghbehnnghnaaPkQ
import Derived.Test.YtigghbehnnghnaaPkP
import Derived.Test.YtigghbehnnghnaaRegInv
import Derived.Laws.OwnMore
import Derived.Deep.Onto
namespace Go.Proofs.Ytigghbehnnghnaa
open Go.RowKit Go.RowBits
set_option linter.unusedSimpArgs false
set_option linter.unusedVariables false

/-! ### What stays through a world that has grown, and been written in one row alone -/
theorem grown_of_below {w w' : World} (h : Below w.heap.size w w') (row : Option Nat) : w.grownBy w' row := ⟨h.os, h.tape, h.output, h.size, fun k hk _ => h.block k hk⟩
/-- Blocks that are known whole, none of them of words. -/
def Env (w : World) (l : List (Nat × Array Value × Nat)) : Prop := ∀ x ∈ l, w.heap[x.1]? = some (.cells x.2.1 x.2.2 (0, 0)) ∧ x.2.2 ≠ 33
theorem Env.lt {w : World} {l : List (Nat × Array Value × Nat)} (h : Env w l) {x : Nat × Array Value × Nat} (hx : x ∈ l) : x.1 < w.heap.size := (Array.getElem?_eq_some_iff.1 (h x hx).1).1
theorem Env.below {w w' : World} {l : List (Nat × Array Value × Nat)} (h : Env w l) (hb : Below w.heap.size w w') : Env w' l := fun x hx => ⟨(hb.block x.1 (h.lt hx)).trans (h x hx).1, (h x hx).2⟩
theorem Env.grown {w w' : World} {l : List (Nat × Array Value × Nat)} {row : Option Nat} (h : Env w l) (hb : w.grownBy w' row) (hr : ∀ g, row = some g → ∃ cur fz, w.heap[g]? = some (.cells cur 33 fz)) : Env w' l := fun x hx => by
  refine ⟨(hb.block x.1 (h.lt hx) (fun e => ?_)).trans (h x hx).1, (h x hx).2⟩
  obtain ⟨cur, fz, hc⟩ := hr x.1 e.symm
  rw [(h x hx).1] at hc
  injection hc with hc
  injection hc with _ h2 _
  exact (h x hx).2 h2
theorem Env.cons {w : World} {l : List (Nat × Array Value × Nat)} {x : Nat × Array Value × Nat} (h : Env w l) (h1 : w.heap[x.1]? = some (.cells x.2.1 x.2.2 (0, 0))) (h2 : x.2.2 ≠ 33) : Env w (x :: l) := fun y hy => by
  rcases List.mem_cons.1 hy with rfl | hy
  · exact ⟨h1, h2⟩
  · exact h y hy
theorem Env.nil (w : World) : Env w [] := fun x hx => by cases hx
theorem Env.alloc {w : World} {l : List (Nat × Array Value × Nat)} (h : Env w l) {n : Nat} (hn : w.heap.size = n) (cs : Array Value) (T : Nat) (hT : T ≠ 33) : Env (w.alloc (.cells cs T)) ((n, cs, T) :: l) := by
  subst hn
  exact (h.below (below_new _)).cons (heap_alloc_new w _) hT
theorem Env.cell {w : World} {l : List (Nat × Array Value × Nat)} (h : Env w l) {b j : Nat} {cs : Array Value} {T : Nat} {u : Value} (hx : (b, cs, T) ∈ l) (hj : cs[j]? = some u) : w.cell? ⟨b, j, none⟩ = some u := by
  rw [cell_of_row w b j cs T (0, 0) (h _ hx).1, hj]
theorem Env.frozen {w : World} {l : List (Nat × Array Value × Nat)} (h : Env w l) {b j : Nat} {cs : Array Value} {T : Nat} (hx : (b, cs, T) ∈ l) : w.frozen? ⟨b, j, none⟩ = false :=
  frozen_of_row w b j cs T (h _ hx).1
theorem set_grown (w : World) (b o : Nat) (u : Value) : w.grownBy (w.setCell ⟨b, o, none⟩ u) (some b) :=
  ⟨rfl, rfl, rfl, by simp, fun k _ hk => heap_setCell_other w ⟨b, o, none⟩ k u (fun e => hk (by rw [e]))⟩
theorem Env.ne33 {w : World} {l : List (Nat × Array Value × Nat)} (h : Env w l) {x : Nat × Array Value × Nat} (hx : x ∈ l) {g : Nat} {cur : Array Value} {fz : Nat × Nat} (hg : w.heap[g]? = some (.cells cur 33 fz)) : x.1 ≠ g := fun e => by
  have h1 := (h x hx).1
  rw [e, hg] at h1
  injection h1 with h1
  injection h1 with _ h2 _
  exact (h x hx).2 h2.symm
theorem set2_heap {w : World} {b T : Nat} {x0 x1 : Value} (h : w.heap[b]? = some (.cells #[x0, x1] T (0, 0))) (u0 u1 : Value) : ((w.setCell ⟨b, 0, none⟩ u0).setCell ⟨b, 1, none⟩ u1).heap[b]? = some (.cells #[u0, u1] T (0, 0)) := by
  rw [heap_setCell_same _ b 1 _ T u1 (heap_setCell_same w b 0 _ T u0 h)]
  rfl
theorem Env.store2 {w : World} {l : List (Nat × Array Value × Nat)} {b T : Nat} {x0 x1 : Value} (h : Env w l) (hb : w.heap[b]? = some (.cells #[x0, x1] T (0, 0))) (hT : T ≠ 33) (u0 u1 : Value) (hl : ∀ x ∈ l, x.1 ≠ b) :
    Env ((w.setCell ⟨b, 0, none⟩ u0).setCell ⟨b, 1, none⟩ u1) ((b, #[u0, u1], T) :: l) := by
  refine Env.cons (fun x hx => ⟨?_, (h x hx).2⟩) (set2_heap hb u0 u1) hT
  rw [heap_setCell_other _ ⟨b, 1, none⟩ x.1 u1 (hl x hx), heap_setCell_other w ⟨b, 0, none⟩ x.1 u0 (hl x hx)]
  exact (h x hx).1
theorem set2_grown (w : World) (b : Nat) (u0 u1 : Value) : w.grownBy ((w.setCell ⟨b, 0, none⟩ u0).setCell ⟨b, 1, none⟩ u1) (some b) := by
  have h1 := set_grown w b 0 u0
  have h2 := set_grown (w.setCell ⟨b, 0, none⟩ u0) b 1 u1
  refine ⟨h2.os.trans h1.os, h2.tape.trans h1.tape, h2.output.trans h1.output, Nat.le_trans h1.size h2.size, fun k hk hne => (h2.block k ?_ hne).trans (h1.block k hk hne)⟩
  have := h1.size; omega
/-- Three blocks written whole. -/
theorem Env.three {w : World} {l : List (Nat × Array Value × Nat)} {b0 b1 b2 : Nat} {z0 z1 : Value} (h : Env w l) (h0 : w.heap[b0]? = some (.cells #[z0, z1] 27 (0, 0))) (h1 : w.heap[b1]? = some (.cells #[z0, z1] 27 (0, 0))) (h2 : w.heap[b2]? = some (.cells #[z0, z1] 27 (0, 0)))
    (n01 : b0 ≠ b1) (n02 : b0 ≠ b2) (n12 : b1 ≠ b2) (u0 u1 v0 v1 x0 x1 : Value) (hl : ∀ x ∈ l, x.1 < b0 ∧ x.1 < b1 ∧ x.1 < b2) :
    Env ((((((w.setCell ⟨b0, 0, none⟩ u0).setCell ⟨b0, 1, none⟩ u1).setCell ⟨b1, 0, none⟩ v0).setCell ⟨b1, 1, none⟩ v1).setCell ⟨b2, 0, none⟩ x0).setCell ⟨b2, 1, none⟩ x1) ((b2, #[x0, x1], 27) :: (b1, #[v0, v1], 27) :: (b0, #[u0, u1], 27) :: l) := by
  have e0 := h.store2 h0 (by decide) u0 u1 (fun x hx => by have := (hl x hx).1; omega)
  have g1 := (((set2_grown w b0 u0 u1).block b1 (Array.getElem?_eq_some_iff.1 h1).1 (fun e => by injection e with e; exact n01 e.symm)).trans h1)
  have g2 := (((set2_grown w b0 u0 u1).block b2 (Array.getElem?_eq_some_iff.1 h2).1 (fun e => by injection e with e; exact n02 e.symm)).trans h2)
  have e1 := e0.store2 g1 (by decide) v0 v1 (fun x hx => by
    rcases List.mem_cons.1 hx with rfl | hx
    · exact n01
    · have := (hl x hx).2.1; omega)
  have g3 := (((set2_grown ((w.setCell ⟨b0, 0, none⟩ u0).setCell ⟨b0, 1, none⟩ u1) b1 v0 v1).block b2 (Array.getElem?_eq_some_iff.1 g2).1 (fun e => by injection e with e; exact n12 e.symm)).trans g2)
  exact e1.store2 g3 (by decide) x0 x1 (fun x hx => by
    rcases List.mem_cons.1 hx with rfl | hx
    · exact n12
    rcases List.mem_cons.1 hx with rfl | hx
    · exact n02
    · have := (hl x hx).2.2; omega)
theorem Env.sub {w : World} {l l' : List (Nat × Array Value × Nat)} (h : Env w l) (hs : ∀ x ∈ l', x ∈ l) : Env w l' := fun x hx => h x (hs x hx)
theorem HasW.grown {w w' : World} {row : Option Nat} {v : Value} {l : List Nat} (h : HasW w v l) (hg : w.grownBy w' row) (hne : ∀ g, v.ownBlock = some g → row ≠ some g) : HasW w' v l := by
  obtain ⟨ad, cap, rfl, hc⟩ := h
  refine ⟨ad, cap, rfl, fun j hj => ?_⟩
  obtain ⟨g, o, rfl, c1⟩ := hc j hj
  exact ⟨g, o, rfl, hg.cell c1 (fun e => hne g rfl e.symm)⟩
theorem Lent.kept {w w' : World} {row : Option Nat} {base : Nat} {v : Value} {l : List Nat} (h : Lent w base v l) (hg : w.grownBy w' row) (hne : v.ownBlock ≠ row) : Lent w' base v l := by
  obtain ⟨g, cap, rfl, ho⟩ := h
  exact ⟨g, cap, rfl, ho.kept hg (.inr hne)⟩
theorem Lent.below {w w' : World} {base : Nat} {v : Value} {l : List Nat} (h : Lent w base v l) (hb : Below w.heap.size w w') : Lent w' base v l := h.kept (grown_of_below hb none) (by obtain ⟨g, cap, rfl, ho⟩ := h; intro e; cases e)
theorem Lent.blk {w : World} {base : Nat} {v : Value} {l : List Nat} (h : Lent w base v l) : ∃ g, v.ownBlock = some g ∧ base ≤ g ∧ g < w.heap.size ∧ ∃ cur, w.heap[g]? = some (.cells cur 33 (0, 0)) := by
  obtain ⟨g, cap, rfl, ho⟩ := h
  have := ho.lt g rfl
  refine ⟨g, rfl, this.1, this.2, ?_⟩
  rcases ho.2 with ⟨h', _⟩ | ⟨g', cap', cur, h', _, hg, _⟩
  · cases h'
  · cases h'; exact ⟨cur, hg⟩
theorem Lent.has {w : World} {base : Nat} {v : Value} {l : List Nat} (h : Lent w base v l) : HasW w v l := by
  obtain ⟨g, cap, rfl, ho⟩ := h
  refine ⟨_, cap, rfl, fun j hj => ⟨g, 0, rfl, ?_⟩⟩
  rw [Nat.zero_add, ho.cellAt j (by omega), List.getElem?_map, List.getElem?_append_left hj]
  simp [hj, wv]

/-! ### The answer of Line, in one form -/
noncomputable def lineN (hood : Int) (born stay : Nat) (N0 N1 N2 : Int) (a h b : List Nat) : Int := if lineE hood born stay N0 N1 N2 a h b = 0 then N1 - 2 else 0
noncomputable def lineW (hood : Int) (born stay : Nat) (N0 N1 N2 : Int) (a h b : List Nat) : List Nat := if lineE hood born stay N0 N1 N2 a h b = 0 then pack (lineB (offs hood) born stay a h b (N1 - 2).toNat) else []
/-- A row of words of one's own, without spare room. -/
def OwnW (w : World) (base : Nat) (v : Value) (ws : List Nat) : Prop := w.ownsRow base 33 1 v ws.length (ws.map wv) ∧ ∃ ad, v = .slice ad ws.length ws.length
theorem lineW_le {hood : Int} {born stay : Nat} {N0 N1 N2 : Int} {a h b : List Nat} : (lineW hood born stay N0 N1 N2 a h b).length ≤ 1025 := by
  unfold lineW
  by_cases hL : lineE hood born stay N0 N1 N2 a h b = 0
  · rw [if_pos hL, (pack_good _).len]
    have h1 : N1 ≤ 65538 := by
      unfold lineE at hL
      by_cases h0 : lifeE hood born stay = 0
      · rw [if_pos h0] at hL
        by_cases hr : rowsOk N0 N1 N2 a h b
        · exact hr.2.1.1.2.1
        · rw [if_neg hr] at hL; cases hL
      · rw [if_neg h0] at hL; cases hL
    unfold lineB
    simp
    omega
  · rw [if_neg hL]; simp
theorem lineIs_out {w w' : World} {hood : Int} {born stay : Nat} {N0 N1 N2 : Int} {a h b : List Nat} {e : Ending} (hl : LineIs w w' hood born stay N0 N1 N2 a h b e) :
    ∃ v, e = .returned (.tuple #[.agg #[.int .i64 (lineN hood born stay N0 N1 N2 a h b), v], .int .i64 (lineE hood born stay N0 N1 N2 a h b)]) ∧ OwnW w' w.heap.size v (lineW hood born stay N0 N1 N2 a h b) ∧ Below w.heap.size w w' := by
  have hle := @lineW_le hood born stay N0 N1 N2 a h b
  unfold LineIs at hl
  unfold lineN lineW at *
  by_cases hL : lineE hood born stay N0 N1 N2 a h b = 0
  · rw [if_pos hL] at hl hle ⊢
    rw [if_pos hL]
    obtain ⟨g, he, hg, hW, hB⟩ := hl
    exact ⟨_, by rw [he, hL], ⟨hW.own hg (by unfold maxLen; omega), _, rfl⟩, hB⟩
  · rw [if_neg hL] at hl ⊢
    rw [if_neg hL]
    exact ⟨_, hl.1, ⟨World.ownsRow_nil _ _ _ _, _, rfl⟩, hl.2⟩
theorem OwnW.has {w : World} {base : Nat} {v : Value} {ws : List Nat} (h : OwnW w base v ws) : HasW w v ws := HasW.own h.1
theorem OwnW.kept {w w' : World} {row : Option Nat} {base : Nat} {v : Value} {ws : List Nat} (h : OwnW w base v ws) (hg : w.grownBy w' row) (hne : v.ownBlock = none ∨ v.ownBlock ≠ row) : OwnW w' base v ws := ⟨h.1.kept hg hne, h.2⟩
theorem OwnW.below {w w' : World} {base : Nat} {v : Value} {ws : List Nat} (h : OwnW w base v ws) (hb : Below w.heap.size w w') : OwnW w' base v ws := ⟨own_below h.1 hb, h.2⟩

theorem Lent.ne {w : World} {base : Nat} {v : Value} {l : List Nat} (h : Lent w base v l) {b T : Nat} {cs : Array Value} {fz : Nat × Nat} (hb : w.heap[b]? = some (.cells cs T fz)) (hT : T ≠ 33) : v.ownBlock ≠ some b := fun e => by
  obtain ⟨g, hg, _, _, cur, hc⟩ := h.blk
  rw [hg] at e
  injection e with e
  subst e
  rw [hc] at hb
  injection hb with hb
  injection hb with _ h2 _
  exact hT h2.symm
/-! ### Words that are marked one by one -/
def markW (c : Nat → Nat) (ws : List Nat) (k : Nat) : List Nat := (List.range ws.length).map fun j => if j < k then c j else ws.getD j 0
theorem markW_len (c : Nat → Nat) (ws : List Nat) (k : Nat) : (markW c ws k).length = ws.length := by unfold markW; simp
theorem markW_zero (c : Nat → Nat) (ws : List Nat) : markW c ws 0 = ws := by
  unfold markW
  apply List.ext_getElem
  · simp
  · intro j h1 h2; simp [h2]
theorem markW_get (c : Nat → Nat) (ws : List Nat) {j k : Nat} (hj : j < ws.length) : (markW c ws k).getD j 0 = if j < k then c j else ws.getD j 0 := by unfold markW; simp [hj]
theorem ext_getD {a b : List Nat} (hl : a.length = b.length) (h : ∀ j, j < a.length → a.getD j 0 = b.getD j 0) : a = b := by
  apply List.ext_getElem hl
  intro j h1 h2
  have := h j h1
  simpa [h1, h2] using this
theorem markW_succ (c : Nat → Nat) (ws : List Nat) {k : Nat} (hk : k < ws.length) : markW c ws (k + 1) = (markW c ws k).set k (c k) := by
  refine ext_getD (by simp [markW_len]) fun j h1 => ?_
  have hj : j < ws.length := by rw [markW_len] at h1; exact h1
  rw [markW_get c ws hj]
  by_cases e : k = j
  · subst e
    rw [if_pos (by omega), getD_set_self (by rw [markW_len]; exact hk)]
  · rw [Go.RowBits.getD_set_ne e, markW_get c ws hj]
    by_cases h : j < k
    · rw [if_pos (by omega), if_pos h]
    · rw [if_neg (by omega), if_neg h]
theorem zero_64 (us : List Nat) : W64 (markW (fun _ => 0) us us.length) := fun j => by
  by_cases hj : j < us.length
  · rw [markW_get _ _ hj, if_pos hj]; decide
  · have h : (markW (fun _ => 0) us us.length).length ≤ j := by rw [markW_len]; omega
    simp [h]
def marks (c : Nat) (k : Nat) : List Nat := (List.range k).map fun j => c + j
theorem marks_succ (c k : Nat) : marks c (k + 1) = marks c k ++ [c + k] := by unfold marks; rw [List.range_succ, List.map_append]; rfl
theorem marks_len (c k : Nat) : (marks c k).length = k := by unfold marks; simp
theorem marks_get (c : Nat) {j k : Nat} (hj : j < k) : (marks c k).getD j 0 = c + j := by unfold marks; simp [hj]

/-- What is carried through the whole walk. -/
structure St (w W : World) (l : List (Nat × Array Value × Nat)) (B : Nat) (va : Value) (Ra : List Nat) (vh : Value) (Rh : List Nat) (vb : Value) (Rb : List Nat) (os : List (Nat × Value × List Nat)) : Prop where
  env : Env W l
  la : Lent W B va Ra
  lh : Lent W B vh Rh
  lb : Lent W B vb Rb
  own : ∀ x ∈ os, OwnW W x.1 x.2.1 x.2.2
  bel : Below w.heap.size w W
theorem OwnW.set {W : World} {b g n k : Nat} {us : List Nat} (h : OwnW W b (.slice (some ⟨g, 0, none⟩) n n) us) (x : Nat) : OwnW (W.setCell ⟨g, k, none⟩ (.int .u64 ((x : Nat) : Int))) b (.slice (some ⟨g, 0, none⟩) n n) (us.set k x) := by
  obtain ⟨ho, ad, e⟩ := h
  injection e with e1 e2 e3
  subst e2
  have h2 := (ho.stored k (.int .u64 ((x : Nat) : Int))).1
  refine ⟨?_, some ⟨g, 0, none⟩, by simp⟩
  rw [List.length_set, List.map_set]
  exact h2
theorem OwnW.blk {W : World} {b g n c : Nat} {us : List Nat} (h : OwnW W b (.slice (some ⟨g, 0, none⟩) n c) us) : b ≤ g ∧ g < W.heap.size ∧ ∃ cur fz, W.heap[g]? = some (.cells cur 33 fz) := by
  refine ⟨(h.1.lt g rfl).1, (h.1.lt g rfl).2, ?_⟩
  rcases h.1.2 with ⟨e, _⟩ | ⟨g', cap', cur, h', _, hg, _⟩
  · cases e
  · cases h'; exact ⟨cur, (0, 0), hg⟩
theorem ob_ne {g g' n c : Nat} (h : g ≠ g') : (Value.slice (some ⟨g, 0, none⟩) n c).ownBlock ≠ some g' := fun e => h (by injection e)
theorem OwnW.cellk {W : World} {b g n c k : Nat} {us : List Nat} (h : OwnW W b (.slice (some ⟨g, 0, none⟩) n c) us) (hk : k < us.length) : W.cell? ⟨g, k, none⟩ = some (.int .u64 ((us.getD k 0 : Nat) : Int)) := by
  obtain ⟨ho, ad, e⟩ := h
  injection e with e1 e2 e3
  subst e2 e3
  rw [ho.cellAt k (by omega)]
  simp [hk, wv]
theorem OwnW.frz {W : World} {b g n c : Nat} {us : List Nat} (h : OwnW W b (.slice (some ⟨g, 0, none⟩) n c) us) (k : Nat) : W.frozen? ⟨g, k, none⟩ = false := by
  obtain ⟨ho, ad, e⟩ := h
  injection e with e1 e2 e3
  subst e2 e3
  exact ho.frozenAt k
theorem OwnW.some {W : World} {b : Nat} {v : Value} {us : List Nat} (h : OwnW W b v us) (h0 : 0 < us.length) : ∃ g, v = .slice (some ⟨g, 0, none⟩) us.length us.length := by
  obtain ⟨ho, ad, e⟩ := h
  rcases ho.2 with ⟨_, e2⟩ | ⟨g', cap', cur, h', _⟩
  · omega
  · rw [e] at h'
    injection h' with e1 _ _
    exact ⟨g', by rw [e, e1]⟩
theorem Lent.at {w : World} {base g n c : Nat} {l : List Nat} (h : Lent w base (.slice (some ⟨g, 0, none⟩) n c) l) : base ≤ g ∧ g < w.heap.size := by
  obtain ⟨g', hg, h1, h2, _⟩ := h.blk
  cases hg
  exact ⟨h1, h2⟩
theorem Lent.cellk {W : World} {b g n c k : Nat} {us : List Nat} (h : Lent W b (.slice (some ⟨g, 0, none⟩) n c) us) (hk : k < us.length) : W.cell? ⟨g, k, none⟩ = some (.int .u64 ((us.getD k 0 : Nat) : Int)) ∧ W.frozen? ⟨g, k, none⟩ = false := by
  obtain ⟨g', cap, e, ho⟩ := h
  injection e with e1 e2 e3
  injection e1 with e1
  injection e1 with e1
  subst e1 e2 e3
  refine ⟨?_, ho.frozenAt k⟩
  rw [ho.cellAt k (by omega), List.getElem?_map, List.getElem?_append_left hk]
  simp [hk, wv]
theorem Lent.set {W : World} {b g n c k : Nat} {us : List Nat} (h : Lent W b (.slice (some ⟨g, 0, none⟩) n c) us) (hk : k < us.length) (x : Nat) : Lent (W.setCell ⟨g, k, none⟩ (.int .u64 ((x : Nat) : Int))) b (.slice (some ⟨g, 0, none⟩) n c) (us.set k x) := by
  obtain ⟨g', cap, e, ho⟩ := h
  injection e with e1 e2 e3
  injection e1 with e1
  injection e1 with e1
  subst e1 e2 e3
  refine ⟨g, c, by simp, ?_⟩
  have h2 := (ho.stored k (.int .u64 ((x : Nat) : Int))).1
  rw [List.length_set, ← List.set_append_left k x hk, List.map_set]
  exact h2
section
variable {w W W' : World} {l : List (Nat × Array Value × Nat)} {Ra Rh Rb : List Nat} {B : Nat} {va vh vb : Value} {os : List (Nat × Value × List Nat)}
theorem St.below (h : St w W l B va Ra vh Rh vb Rb os) (hb : Below W.heap.size W W') : St w W' l B va Ra vh Rh vb Rb os :=
  ⟨h.env.below hb, h.la.below hb, h.lh.below hb, h.lb.below hb, fun x hx => (h.own x hx).below hb, below_then h.bel hb h.bel.size⟩
theorem St.alloc (h : St w W l B va Ra vh Rh vb Rb os) (cs : Array Value) (T : Nat) (hT : T ≠ 33) : St w (W.alloc (.cells cs T)) ((W.heap.size, cs, T) :: l) B va Ra vh Rh vb Rb os :=
  have k := h.below (below_new (.cells cs T))
  ⟨h.env.alloc rfl cs T hT, k.la, k.lh, k.lb, k.own, k.bel⟩
theorem St.addOwn (h : St w W l B va Ra vh Rh vb Rb os) {b : Nat} {v : Value} {us : List Nat} (ho : OwnW W b v us) : St w W l B va Ra vh Rh vb Rb ((b, v, us) :: os) :=
  ⟨h.env, h.la, h.lh, h.lb, fun x hx => by
    rcases List.mem_cons.1 hx with rfl | hx
    · exact ho
    · exact h.own x hx, h.bel⟩
theorem St.grown {g : Nat} (h : St w W l B va Ra vh Rh vb Rb os) (hg : W.grownBy W' (some g)) (h33 : ∃ cur fz, W.heap[g]? = some (.cells cur 33 fz)) (ha : va.ownBlock ≠ some g) (hh : vh.ownBlock ≠ some g) (hb : vb.ownBlock ≠ some g)
    (ho : ∀ x ∈ os, x.2.1.ownBlock ≠ some g) (hw : w.heap.size ≤ g) : St w W' l B va Ra vh Rh vb Rb os :=
  ⟨h.env.grown hg (fun g' e => by injection e with e; subst e; exact h33), h.la.kept hg ha, h.lh.kept hg hh, h.lb.kept hg hb, fun x hx => (h.own x hx).kept hg (.inr (ho x hx)),
    Below.grown h.bel hg h.bel.size (fun k e => by injection e with e; omega)⟩
/-- One word of one's own is written. -/
theorem St.mark {b g n k : Nat} {us : List Nat} (h : St w W l B va Ra vh Rh vb Rb ((b, .slice (some ⟨g, 0, none⟩) n n, us) :: os)) (x : Nat) (ha : va.ownBlock ≠ some g) (hh : vh.ownBlock ≠ some g) (hb : vb.ownBlock ≠ some g)
    (ho : ∀ x ∈ os, x.2.1.ownBlock ≠ some g) (hw : w.heap.size ≤ g) : St w (W.setCell ⟨g, k, none⟩ (.int .u64 ((x : Nat) : Int))) l B va Ra vh Rh vb Rb ((b, .slice (some ⟨g, 0, none⟩) n n, us.set k x) :: os) := by
  have h1 := h.own (b, .slice (some ⟨g, 0, none⟩) n n, us) (by simp)
  have h2 : St w W l B va Ra vh Rh vb Rb os := ⟨h.env, h.la, h.lh, h.lb, fun x hx => h.own x (List.mem_cons_of_mem _ hx), h.bel⟩
  exact (h2.grown (set_grown W g k _) h1.blk.2.2 ha hh hb ho hw).addOwn (h1.set x)
/-- One word of the row in the middle is written. -/
theorem St.markH {g n c k : Nat} (h : St w W l B va Ra (.slice (some ⟨g, 0, none⟩) n c) Rh vb Rb os) (x : Nat) (hk : k < Rh.length) (ha : va.ownBlock ≠ some g) (hb : vb.ownBlock ≠ some g)
    (ho : ∀ x ∈ os, x.2.1.ownBlock ≠ some g) (hw : w.heap.size ≤ g) : St w (W.setCell ⟨g, k, none⟩ (.int .u64 ((x : Nat) : Int))) l B va Ra (.slice (some ⟨g, 0, none⟩) n c) (Rh.set k x) vb Rb os := by
  have hg := set_grown W g k (.int .u64 ((x : Nat) : Int))
  obtain ⟨g', e', _, _, cur, hc⟩ := h.lh.blk
  cases e'
  exact ⟨h.env.grown hg (fun g' e => by injection e with e; subst e; exact ⟨cur, _, hc⟩), h.la.kept hg ha, h.lh.set hk x, h.lb.kept hg hb, fun x hx => (h.own x hx).kept hg (.inr (ho x hx)),
    Below.grown h.bel hg h.bel.size (fun k e => by injection e with e; omega)⟩
theorem St.drop {x : Nat × Value × List Nat} (h : St w W l B va Ra vh Rh vb Rb (x :: os)) : St w W l B va Ra vh Rh vb Rb os := ⟨h.env, h.la, h.lh, h.lb, fun y hy => h.own y (List.mem_cons_of_mem _ hy), h.bel⟩
theorem St.swap {x y : Nat × Value × List Nat} (h : St w W l B va Ra vh Rh vb Rb (x :: y :: os)) : St w W l B va Ra vh Rh vb Rb (y :: x :: os) :=
  ⟨h.env, h.la, h.lh, h.lb, fun z hz => h.own z (by simp at hz ⊢; rcases hz with h | h | h <;> simp [h]), h.bel⟩
end
/-- The loops that write. -/
def WRel (w : World) (l : List (Nat × Array Value × Nat)) (B : Nat) (va : Value) (Ra : List Nat) (vh : Value) (Rh : List Nat) (vb : Value) (Rb : List Nat) (os : List (Nat × Value × List Nat)) (c : Nat → Nat) (b : Nat) (v : Value) (us : List Nat) (i : Value) (wx : World) : Prop :=
  ∃ k : Nat, k ≤ us.length ∧ i = .int .i64 (k : Int) ∧ St w wx l B va Ra vh Rh vb Rb ((b, v, markW c us k) :: os)
def HRel (w : World) (l : List (Nat × Array Value × Nat)) (B : Nat) (va : Value) (Ra : List Nat) (vh : Value) (Rh : List Nat) (vb : Value) (Rb : List Nat) (os : List (Nat × Value × List Nat)) (i : Value) (wx : World) : Prop :=
  ∃ k : Nat, k ≤ Rh.length ∧ i = .int .i64 (k : Int) ∧ St w wx l B va Ra vh (markW (fun _ => 0) Rh k) vb Rb os
/-- The loops that append. -/
def ARel (W : World) (vp : Value) (us : List Nat) (c : Nat) (v i : Value) (wx : World) : Prop :=
  ∃ k : Nat, k ≤ 9 ∧ i = .int .i64 (k : Int) ∧ Below W.heap.size W wx ∧ ((k = 0 ∧ v = vp) ∨ wx.ownsRow W.heap.size 33 1 v (us.length + k) ((us ++ marks c k).map wv))
/-- The loops that read. -/
def RRel (W : World) (n : Nat) (i : Value) (wx : World) : Prop := ∃ k : Nat, k ≤ n ∧ i = .int .i64 (k : Int) ∧ Below W.heap.size W wx

/-! ### Appending one word -/
theorem append_u64 {W : World} {base : Nat} {v : Value} {n : Nat} {xs : List Value} (X : Int) (b ty c : Nat) (hown : W.ownsRow base 33 1 v n xs) (h1 : W.cell? ⟨b, 0, none⟩ = some (.int .u64 X))
    (hbase : base ≤ W.heap.size) (hn : n ≤ 100000) :
    ∃ v' w', (Builtin.append_ #[25, 25] ty #[v, .slice (some ⟨b, 0, none⟩) 1 c]).run Try.prog W = .ok v' w' ∧
      ((v'.ownBlock = v.ownBlock ∧ W.grownBy w' v.ownBlock ∧ w'.ownsRow base 33 1 v' (n + 1) (xs ++ [.int .u64 X]) ∧ ∃ ad cap, v = .slice ad n cap ∧ n + 1 ≤ cap) ∨ (w'.ownsRow W.heap.size 33 1 v' (n + 1) (xs ++ [.int .u64 X]) ∧ W.grownBy w' none)) := by
  obtain ⟨i0, hi, hz0, hz1, hz2⟩ := info_parts info33'
  have hnews : ∀ j u, ([.int .u64 X] : List Value)[j]? = some u → W.cell? ((⟨b, 0, none⟩ : Addr).add j) = some u := by
    intro j u hj
    match j, hj with
    | 0, hj => simp at hj; subst hj; simpa [Addr.add] using h1
  have hcell : ∀ u ∈ ([.int .u64 X] : List Value), u.oneCell' = true := by intro u hu; simp at hu; subst hu; rfl
  rcases hown.2 with ⟨rfl, rfl⟩ | ⟨g, cap, cur, rfl, hg, hb, hnc, hcm, hcs, htake⟩
  · have hxs : xs = [] := by have := hown.1; simpa using this
    subst hxs
    obtain ⟨v', w', r1, r2, r3, _⟩ := run_append_own (P := Try.prog) W W.heap.size 25 ty 33 i0 _ 1 8 Try.underlying25 hi hz0 hz1 hz2 rfl (by decide) (.slice none 0 0) 0 [] (World.ownsRow_nil _ _ _ _) ⟨b, 0, none⟩ 1 c _ rfl hnews hcell (by unfold maxLen; omega) (by omega) (Nat.le_refl _)
    exact ⟨v', w', r1, .inr ⟨r2, r3⟩⟩
  · by_cases hroom : n + 1 ≤ cap
    · obtain ⟨w', r1, r2, r3⟩ := run_append_fits (P := Try.prog) W base 25 ty 33 i0 1 Try.underlying25 hi hz1 g n cap xs hown ⟨b, 0, none⟩ 1 c _ rfl hnews hcell hroom
      exact ⟨_, w', r1, .inl ⟨rfl, r3, r2, _, cap, rfl, hroom⟩⟩
    · obtain ⟨v', w', r1, r2, r3⟩ := run_append_arg_grows (P := Try.prog) W 25 ty 33 i0 _ 1 8 Try.underlying25 hi hz0 hz1 hz2 rfl (by decide) ⟨g, 0, none⟩ n cap xs hown.1 (by
          intro j u hj
          have hj' : j < n * 1 := by
            have := List.getElem?_eq_some_iff.1 hj
            obtain ⟨h', _⟩ := this
            rw [hown.1] at h'
            exact h'
          have := hown.cellAt j hj'
          rw [hj] at this
          cases j <;> simpa [Addr.add] using this) ⟨b, 0, none⟩ 1 c _ rfl hnews (by omega) (by unfold maxLen; omega) (by omega)
      exact ⟨v', w', r1, .inr ⟨r2, r3⟩⟩

theorem marked_low (us : List Nat) (c n : Nat) {k : Nat} (h : k < us.length) : ((us ++ marks c n).map wv)[k]? = some (.int .u64 ((us.getD k 0 : Nat) : Int)) := by
  rw [List.getElem?_map, List.getElem?_append_left h]
  simp [h, wv]
theorem marked_high (us : List Nat) (c n L : Nat) {k : Nat} (hL : us.length = L) (h : k < n) : ((us ++ marks c n).map wv)[L + k]? = some (.int .u64 ((c + k : Nat) : Int)) := by
  subst hL
  rw [List.getElem?_map, List.getElem?_append_right (by omega), Nat.add_sub_cancel_left]
  unfold marks
  simp [h, wv]
theorem arel_step {W wr : World} {vp v : Value} {us : List Nat} {b c k : Nat} {X : Int} (hp : OwnW W b vp us) (hb : b ≤ W.heap.size) (hB : Below W.heap.size W wr) (hc : (k = 0 ∧ v = vp) ∨ wr.ownsRow W.heap.size 33 1 v (us.length + k) ((us ++ marks c k).map wv))
    (hk : k < 9) (hl : us.length ≤ 2000) (hX : X = ((c + k : Nat) : Int)) :
    ∃ v' w', (Builtin.append_ #[25, 25] 25 #[v, .slice (some ⟨wr.heap.size, 0, none⟩) 1 1]).run Try.prog (wr.alloc (.cells #[.int .u64 X] 33)) = .ok v' w' ∧ Below W.heap.size W w' ∧ w'.ownsRow W.heap.size 33 1 v' (us.length + (k + 1)) ((us ++ marks c (k + 1)).map wv) := by
  have hs := hB.size
  have hBa : Below W.heap.size W (wr.alloc (.cells #[.int .u64 X] 33)) := hB.alloc hs _
  have hcell : (wr.alloc (.cells #[.int .u64 X] 33)).cell? ⟨wr.heap.size, 0, none⟩ = some (.int .u64 X) := by go_simp
  have e1 : (us ++ marks c (k + 1)).map wv = (us ++ marks c k).map wv ++ [.int .u64 X] := by
    rw [marks_succ, ← List.append_assoc, List.map_append (l₁ := us ++ marks c k), hX]
    rfl
  rw [e1, ← Nat.add_assoc]
  rcases hc with ⟨rfl, rfl⟩ | ho
  · have ho := (hp.below hBa).1
    have e0 : us ++ marks c 0 = us := by simp [marks]
    rw [e0]
    obtain ⟨v', w', r1, r2⟩ := append_u64 X wr.heap.size 25 1 ho hcell (by simp; omega) (by omega)
    rcases r2 with ⟨_, _, _, ad, cap, q1, q2⟩ | ⟨q1, q2⟩
    · obtain ⟨ad', e⟩ := hp.2
      rw [e] at q1
      injection q1 with _ _ q3
      omega
    · refine ⟨v', w', r1, Below.grown hBa q2 (by simp; omega) (fun b e => by cases e), q1.mono (by simp; omega)⟩
  · obtain ⟨v', w', r1, r2⟩ := append_u64 X wr.heap.size 25 1 (ho.alloc (.cells #[.int .u64 X] 33)) hcell (by simp; omega) (by omega)
    rcases r2 with ⟨q0, q1, q2, _⟩ | ⟨q1, q2⟩
    · exact ⟨v', w', r1, Below.grown hBa q1 (by simp; omega) (fun b e => (ho.lt b e).1), q2⟩
    · exact ⟨v', w', r1, Below.grown hBa q2 (by simp; omega) (fun b e => by cases e), q1.mono (by simp; omega)⟩

/-! ### Three rows lent in one statement, in whatever order -/
def upd (f : Nat → Value) (k : Nat) (v : Value) : Nat → Value := fun j => if j = k then v else f j
def lb : Value → Option Nat
  | .agg #[_, v] => v.ownBlock
  | _ => none
theorem set_ne {L : Nat → Bool} {i j : Nat} (h : j ≠ i) (hl : (decide (j = i) || L j) = true) : L j = true := by simpa [h] using hl
structure J3 (W : World) (N : Nat → Int) (vf : Nat → Value) (R : Nat → List Nat) (L : Nat → Bool) (p a c : Nat → Value) (w' : World) : Prop where
  B : Below W.heap.size W w'
  arg : ∀ k, k < 3 → L (2 * k) = true → a k = .agg #[.int .i64 (N k), vf k]
  lent : ∀ k, k < 3 → L (2 * k + 1) = true → ∃ v, c k = .agg #[.int .i64 (N k), v] ∧ Lent w' W.heap.size v (R k)
  ptr : ∀ k, k < 3 → L (6 + k) = true → ∃ b, p k = .pointer (some ⟨b, 0, none⟩) ∧ W.heap.size ≤ b ∧ w'.heap[b]? = some (.cells #[.int .i64 0, .slice none 0 0] 27 (0, 0))
  apart : ∀ j k, j < 3 → k < 3 → j ≠ k → L (6 + j) = true → L (6 + k) = true → p j ≠ p k
  lentApart : ∀ j k, j < 3 → k < 3 → j ≠ k → L (2 * j + 1) = true → L (2 * k + 1) = true → lb (c j) ≠ lb (c k)
section
variable {W w' w'' : World} {N : Nat → Int} {vf : Nat → Value} {R : Nat → List Nat} {L : Nat → Bool} {p a c : Nat → Value}
theorem J3.start (hB : Below W.heap.size W w') : J3 W N vf R (fun _ => false) p a c w' :=
  ⟨hB, fun k _ h => by simp at h, fun k _ h => by simp at h, fun k _ h => by simp at h, fun j k _ _ _ h => by simp at h, fun j k _ _ _ h => by simp at h⟩
theorem J3.setArg (h : J3 W N vf R L p a c w') {k : Nat} (hk : k < 3) : J3 W N vf R (fun j => decide (j = 2 * k) || L j) p (upd a k (.agg #[.int .i64 (N k), vf k])) c w' := by
  refine ⟨h.B, fun j hj hl => ?_, fun j hj hl => h.lent j hj ?_, fun j hj hl => h.ptr j hj ?_, fun i j hi hj hne h1 h2 => h.apart i j hi hj hne ?_ ?_, fun i j hi hj hne h1 h2 => h.lentApart i j hi hj hne ?_ ?_⟩
  · unfold upd
    by_cases e : j = k
    · subst e; rw [if_pos rfl]
    · rw [if_neg e]
      exact h.arg j hj (by exact set_ne (by omega) hl)
  · exact set_ne (by omega) hl
  · exact set_ne (by omega) hl
  · exact set_ne (by omega) h1
  · exact set_ne (by omega) h2
  · exact set_ne (by omega) h1
  · exact set_ne (by omega) h2
theorem J3.setLent (h : J3 W N vf R L p a c w') {k : Nat} (hk : k < 3) {v : Value} (hL : Lent w'' w'.heap.size v (R k)) (hb : Below w'.heap.size w' w'') : J3 W N vf R (fun j => decide (j = 2 * k + 1) || L j) p a (upd c k (.agg #[.int .i64 (N k), v])) w'' := by
  have hs := h.B.size
  have hlb : ∀ j, j < 3 → j ≠ k → L (2 * j + 1) = true → lb (c j) ≠ v.ownBlock := fun j hj hjk hl e => by
    obtain ⟨u, hu, hlu⟩ := h.lent j hj hl
    obtain ⟨g, hg, _, hlt, _⟩ := hlu.blk
    obtain ⟨g2, hg2, hge, _⟩ := hL.blk
    rw [hu] at e
    have e2 : u.ownBlock = v.ownBlock := e
    rw [hg, hg2] at e2
    injection e2 with e2
    omega
  refine ⟨below_then h.B hb hs, fun j hj hl => h.arg j hj ?_, fun j hj hl => ?_, fun j hj hl => ?_, fun i j hi hj hne h1 h2 => h.apart i j hi hj hne ?_ ?_, fun i j hi hj hne h1 h2 => ?_⟩
  · exact set_ne (by omega) hl
  · unfold upd
    by_cases e : j = k
    · subst e
      rw [if_pos rfl]
      obtain ⟨g, cap, hv, ho⟩ := hL
      exact ⟨v, rfl, g, cap, hv, ho.mono hs⟩
    · rw [if_neg e]
      have : ¬ 2 * j + 1 = 2 * k + 1 := by omega
      obtain ⟨u, hu, hlu⟩ := h.lent j hj (set_ne (by omega) hl)
      exact ⟨u, hu, hlu.below hb⟩
  · have : ¬ 6 + j = 2 * k + 1 := by omega
    obtain ⟨b, hb1, hb2, hb3⟩ := h.ptr j hj (set_ne (by omega) hl)
    exact ⟨b, hb1, hb2, (hb.block b (Array.getElem?_eq_some_iff.1 hb3).1).trans hb3⟩
  · exact set_ne (by omega) h1
  · exact set_ne (by omega) h2
  · unfold upd
    by_cases e1 : i = k
    · subst e1
      rw [if_pos rfl, if_neg (Ne.symm hne)]
      have : ¬ 2 * j + 1 = 2 * i + 1 := by omega
      exact fun e => hlb j hj (Ne.symm hne) (set_ne (by omega) h2) e.symm
    · rw [if_neg e1]
      have hn1 : ¬ 2 * i + 1 = 2 * k + 1 := by omega
      by_cases e2 : j = k
      · subst e2
        rw [if_pos rfl]
        exact hlb i hi hne (set_ne (by omega) h1)
      · rw [if_neg e2]
        have hn2 : ¬ 2 * j + 1 = 2 * k + 1 := by omega
        exact h.lentApart i j hi hj hne (set_ne (by omega) h1) (set_ne (by omega) h2)
theorem J3.setPtr (h : J3 W N vf R L p a c w') {k : Nat} (hk : k < 3) : J3 W N vf R (fun j => decide (j = 6 + k) || L j) (upd p k (.pointer (some ⟨w'.heap.size, 0, none⟩))) a c (w'.alloc (.cells #[.int .i64 0, .slice none 0 0] 27)) := by
  have hs := h.B.size
  have hb : Below w'.heap.size w' (w'.alloc (.cells #[.int .i64 0, .slice none 0 0] 27)) := below_new _
  have hlb : ∀ j, j < 3 → j ≠ k → L (6 + j) = true → p j ≠ .pointer (some ⟨w'.heap.size, 0, none⟩) := fun j hj hjk hl e => by
    obtain ⟨b, hb1, _, hb3⟩ := h.ptr j hj hl
    have hlt := (Array.getElem?_eq_some_iff.1 hb3).1
    rw [hb1] at e
    injection e with e
    injection e with e
    injection e with e
    omega
  refine ⟨below_then h.B hb hs, fun j hj hl => h.arg j hj ?_, fun j hj hl => ?_, fun j hj hl => ?_, fun i j hi hj hne h1 h2 => ?_, fun i j hi hj hne h1 h2 => h.lentApart i j hi hj hne ?_ ?_⟩
  · exact set_ne (by omega) hl
  · have : ¬ 2 * j + 1 = 6 + k := by omega
    obtain ⟨u, hu, hlu⟩ := h.lent j hj (set_ne (by omega) hl)
    exact ⟨u, hu, hlu.below hb⟩
  · unfold upd
    by_cases e : j = k
    · subst e
      rw [if_pos rfl]
      exact ⟨_, rfl, hs, heap_alloc_new w' _⟩
    · rw [if_neg e]
      have : ¬ 6 + j = 6 + k := by omega
      obtain ⟨b, hb1, hb2, hb3⟩ := h.ptr j hj (set_ne (by omega) hl)
      exact ⟨b, hb1, hb2, (hb.block b (Array.getElem?_eq_some_iff.1 hb3).1).trans hb3⟩
  · unfold upd
    by_cases e1 : i = k
    · subst e1
      rw [if_pos rfl, if_neg (Ne.symm hne)]
      have : ¬ 6 + j = 6 + i := by omega
      exact fun e => hlb j hj (Ne.symm hne) (set_ne (by omega) h2) e.symm
    · rw [if_neg e1]
      have hn1 : ¬ 6 + i = 6 + k := by omega
      by_cases e2 : j = k
      · subst e2
        rw [if_pos rfl]
        exact hlb i hi hne (set_ne (by omega) h1)
      · rw [if_neg e2]
        have hn2 : ¬ 6 + j = 6 + k := by omega
        exact h.apart i j hi hj hne (set_ne (by omega) h1) (set_ne (by omega) h2)
  · exact set_ne (by omega) h1
  · exact set_ne (by omega) h2
end
/-- The invariant of the region. -/
def f3 (x y z : Value) : Nat → Value
  | 0 => x
  | 1 => y
  | 2 => z
  | _ => undef
def I3 (W : World) (N : Nat → Int) (vf : Nat → Value) (R : Nat → List Nat) (L : Nat → Bool) (vs : List Value) (w' : World) : Prop :=
  ∃ p0 p1 p2 a0 c0 a1 c1 a2 c2, vs = [p0, p1, p2, a0, c0, a1, c1, a2, c2] ∧ J3 W N vf R L (f3 p0 p1 p2) (f3 a0 a1 a2) (f3 c0 c1 c2) w'
theorem upd_fn3_0 (x y z v : Value) : upd (f3 x y z) 0 v = f3 v y z := by funext j; match j with | 0 | 1 | 2 | (j + 3) => simp [upd, f3]
theorem upd_fn3_1 (x y z v : Value) : upd (f3 x y z) 1 v = f3 x v z := by funext j; match j with | 0 | 1 | 2 | (j + 3) => simp [upd, f3]
theorem upd_fn3_2 (x y z v : Value) : upd (f3 x y z) 2 v = f3 x y v := by funext j; match j with | 0 | 1 | 2 | (j + 3) => simp [upd, f3]
end Go.Proofs.Ytigghbehnnghnaa
