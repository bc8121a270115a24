import Derived.Test.YtjomgjlicfoehaaHoodD
import Derived.ArgAppend
namespace Go.Proofs.Ytjomgjlicfoehaa
open Go.RowKit
set_option linter.unusedSimpArgs false
set_option linter.unusedVariables false

theorem wpList_append_run {P : Program} {w w' : World} {ops : Array Oper} {rest : List Oper} {o : Oper} {a : Act} {Q : Exit → Act → World → Prop} (hgd : o.guard = none) (s x : Operand) (t : TypeId)
    (ho : o.op = .call { callee := .builtin .append, args := #[s, x], argTypes := #[t, t] }) {v xv v' : Value} (hs : a.eval s = v) (hx : a.eval x = xv)
    (hr : (Builtin.append_ #[t, t] o.type #[v, xv]).run P w = .ok v' w') (h : wpList P ops Q rest (a.put o.dst v') w') : wpList P ops Q (o :: rest) a w :=
  wpList_plain hgd fun _ hK => by
    unfold Oper.wp execOp
    simp only [ho, resolve, invoke, builtin, Sem.run_bind, Sem.run_pure, Result.andThen_ok, List.map_toArray, List.map_cons, List.map_nil, hs, hx, hr]
    exact hK _ _ h

/-! ### Appending one place, with what becomes of the old row -/
theorem append_pt {W : World} {base : Nat} {v : Value} {n : Nat} {xs : List Value} (X Y : Int) (b ty c : Nat) (hown : W.ownsRow base 30 2 v n xs) (h1 : W.cell? ⟨b, 0, none⟩ = some (.int .i64 X)) (h2 : W.cell? ⟨b, 1, none⟩ = some (.int .i64 Y))
    (hbase : base ≤ W.heap.size) (hn : n ≤ 1000) :
    ∃ v' w', (Builtin.append_ #[22, 22] ty #[v, .slice (some ⟨b, 0, none⟩) 1 c]).run Try.prog W = .ok v' w' ∧ w'.ownsRow base 30 2 v' (n + 1) (xs ++ [.int .i64 X, .int .i64 Y]) ∧
      ((v'.ownBlock = v.ownBlock ∧ W.grownBy w' v.ownBlock) ∨ (w'.ownsRow W.heap.size 30 2 v' (n + 1) (xs ++ [.int .i64 X, .int .i64 Y]) ∧ W.grownBy w' none)) := by
  obtain ⟨i0, hi, hz0, hz1, hz2⟩ := info_parts info30
  have hnews : ∀ j u, ([.int .i64 X, .int .i64 Y] : List Value)[j]? = some u → W.cell? ((⟨b, 0, none⟩ : Addr).add j) = some u := by
    intro j u hj
    match j, hj with
    | 0, hj => simp at hj; subst hj; simpa [Addr.add] using h1
    | 1, hj => simp at hj; subst hj; simpa [Addr.add] using h2
  have hcell : ∀ u ∈ ([.int .i64 X, .int .i64 Y] : List Value), u.oneCell' = true := by intro u hu; simp at hu; rcases hu with rfl | rfl <;> rfl
  rcases hown.2 with ⟨rfl, rfl⟩ | ⟨g, cap, cur, rfl, hg, hb, hnc, hcm, hcs, htake⟩
  · have hxs : xs = [] := by have := hown.1; simpa using this
    subst hxs
    obtain ⟨v', w', r1, r2, r3, _⟩ := run_append_own (P := Try.prog) W W.heap.size 22 ty 30 i0 _ 2 16 Try.underlying22 hi hz0 hz1 hz2 rfl (by decide) (.slice none 0 0) 0 [] (World.ownsRow_nil _ _ _ _) ⟨b, 0, none⟩ 1 c _ rfl hnews hcell (by unfold maxLen; omega) (by omega) (Nat.le_refl _)
    exact ⟨v', w', r1, ownsRow_base hbase r2, .inr ⟨r2, r3⟩⟩
  · by_cases hroom : n + 1 ≤ cap
    · obtain ⟨w', r1, r2, r3⟩ := run_append_fits (P := Try.prog) W base 22 ty 30 i0 2 Try.underlying22 hi hz1 g n cap xs hown ⟨b, 0, none⟩ 1 c _ rfl hnews hcell hroom
      exact ⟨_, w', r1, r2, .inl ⟨rfl, r3⟩⟩
    · obtain ⟨v', w', r1, r2, r3⟩ := run_append_arg_grows (P := Try.prog) W 22 ty 30 i0 _ 2 16 Try.underlying22 hi hz0 hz1 hz2 rfl (by decide) ⟨g, 0, none⟩ n cap xs hown.1 (by
          intro j u hj
          have hj' : j < n * 2 := by
            have := List.getElem?_eq_some_iff.1 hj
            obtain ⟨h', _⟩ := this
            rw [hown.1] at h'
            exact h'
          have := hown.cellAt j hj'
          rw [hj] at this
          cases j <;> simpa [Addr.add] using this) ⟨b, 0, none⟩ 1 c _ rfl hnews (by omega) (by unfold maxLen; omega) (by omega)
      exact ⟨v', w', r1, ownsRow_base hbase r2, .inr ⟨r2, r3⟩⟩

theorem HasPts.step {W w' : World} {v : Value} {l : List (Int × Int)} {row : Option Nat} (h : HasPts W v l) (hg : W.grownBy w' row) (hne : ∀ g, v.ownBlock = some g → some g ≠ row) : HasPts w' v l := by
  obtain ⟨ad, cap, rfl, hc⟩ := h
  refine ⟨ad, cap, rfl, fun j hj => ?_⟩
  obtain ⟨g, rfl, c1, c2⟩ := hc j hj
  exact ⟨g, rfl, hg.cell c1 (hne g rfl), hg.cell c2 (hne g rfl)⟩

/-- The first places of a longer row in the same block. -/
theorem HasPts.pre {w : World} {base : Nat} {v v' : Value} {l m : List (Int × Int)} {w0 : World} (h : w.ownsRow base 30 2 v' (l ++ m).length (ptCells (l ++ m))) (hv : HasPts w0 v l) (hb : v'.ownBlock = v.ownBlock) : HasPts w v l := by
  obtain ⟨ad, cap, rfl, hc⟩ := hv
  obtain ⟨ad', cap', rfl, hc'⟩ := HasPts.own h
  refine ⟨ad, cap, rfl, fun j hj => ?_⟩
  obtain ⟨g, rfl, _, _⟩ := hc j hj
  obtain ⟨g', hg', c1, c2⟩ := hc' j (by rw [List.length_append]; omega)
  subst hg'
  have : g' = g := by simpa [Value.ownBlock] using hb
  subst this
  have e : (l ++ m).getD j (0, 0) = l.getD j (0, 0) := by
    rw [List.getD_eq_getElem?_getD, List.getD_eq_getElem?_getD, List.getElem?_append_left hj]
  rw [e] at c1 c2
  exact ⟨g', rfl, c1, c2⟩

/-! ### Filled rows -/
def fillK (c y : Int) (L : List (Int × Int)) (k : Nat) : List (Int × Int) := (List.range L.length).map fun j => if j < k then (c + (j : Int), y) else L.getD j (0, 0)
theorem fillK_len (c y : Int) (L : List (Int × Int)) (k : Nat) : (fillK c y L k).length = L.length := by simp [fillK]
theorem fillK_zero (c y : Int) (L : List (Int × Int)) : fillK c y L 0 = L := by
  apply List.ext_getElem
  · simp [fillK]
  · intro j h1 h2
    simp [fillK, h2]
theorem fillK_succ (c y : Int) (L : List (Int × Int)) {k : Nat} (hk : k < L.length) : fillK c y L (k + 1) = (fillK c y L k).set k (c + (k : Int), y) := by
  apply List.ext_getElem
  · simp [fillK]
  · intro j h1 h2
    simp only [fillK, List.getElem_map, List.getElem_range, List.getElem_set]
    by_cases e : k = j
    · subst e; simp
    · rw [if_neg e]
      by_cases h : j < k
      · rw [if_pos h, if_pos (by omega)]
      · rw [if_neg h, if_neg (by omega)]
theorem fillK_get (c y : Int) (L : List (Int × Int)) {j : Nat} (hj : j < L.length) : (fillK c y L L.length).getD j (0, 0) = (c + (j : Int), y) := by
  simp [fillK, hj]
theorem ptCells_set (l : List (Int × Int)) : ∀ (k : Nat) (p : Int × Int), k < l.length → ptCells (l.set k p) = ((ptCells l).set (k * 2) (.int .i64 p.1)).set (k * 2 + 1) (.int .i64 p.2) := by
  induction l with
  | nil => intro k p hk; simp at hk
  | cons q l ih =>
    intro k p hk
    have e : ∀ (q : Int × Int) l, ptCells (q :: l) = .int .i64 q.1 :: .int .i64 q.2 :: ptCells l := fun _ _ => rfl
    cases k with
    | zero => rw [List.set_cons_zero, e, e]; rfl
    | succ k =>
      rw [List.set_cons_succ, e, e, ih k p (by simpa using hk), show (k + 1) * 2 = k * 2 + 1 + 1 from by omega]
      simp
/-- What is appended: c, c + 1, .. -/
def extK (c : Int) (k : Nat) : List (Int × Int) := (List.range k).map fun j : Nat => (c + (j : Int), 0)
theorem extK_len (c : Int) (k : Nat) : (extK c k).length = k := by simp [extK]
theorem extK_succ (c : Int) (k : Nat) : extK c (k + 1) = extK c k ++ [(c + (k : Int), 0)] := by simp [extK, List.range_succ]
theorem extK_get (l : List (Int × Int)) (c : Int) (k : Nat) {j : Nat} (hj : j < k) : (l ++ extK c k).getD (l.length + j) (0, 0) = (c + (j : Int), 0) := by
  rw [List.getD_eq_getElem?_getD, List.getElem?_append_right (by omega)]
  simp [extK, hj]
theorem preK_get (l : List (Int × Int)) (c : Int) (k : Nat) {j : Nat} (hj : j < l.length) : (l ++ extK c k).getD j (0, 0) = l.getD j (0, 0) := by
  rw [List.getD_eq_getElem?_getD, List.getD_eq_getElem?_getD, List.getElem?_append_left hj]

/-! ### The two storing loops: the row's step -/
theorem fill_step {wr : World} {base : Nat} {g cap : Nat} {L : List (Int × Int)} {c y : Int} {k : Nat} (hk : k < L.length) (h : wr.ownsRow base 30 2 (.slice (some ⟨g, 0, none⟩) L.length cap) L.length (ptCells (fillK c y L k))) :
    ((wr.setCell ⟨g, k * 2, none⟩ (.int .i64 (c + (k : Int)))).setCell ⟨g, k * 2 + 1, none⟩ (.int .i64 y)).ownsRow base 30 2 (.slice (some ⟨g, 0, none⟩) L.length cap) L.length (ptCells (fillK c y L (k + 1))) ∧
    wr.grownBy ((wr.setCell ⟨g, k * 2, none⟩ (.int .i64 (c + (k : Int)))).setCell ⟨g, k * 2 + 1, none⟩ (.int .i64 y)) (some g) := by
  obtain ⟨a1, a2⟩ := h.stored (k * 2) (.int .i64 (c + (k : Int)))
  obtain ⟨b1, b2⟩ := a1.stored (k * 2 + 1) (.int .i64 y)
  refine ⟨?_, ⟨b2.os.trans a2.os, b2.tape.trans a2.tape, b2.output.trans a2.output, Nat.le_trans a2.size b2.size, fun i hi hne => (b2.block i (by have := a2.size; omega) hne).trans (a2.block i hi hne)⟩⟩
  rw [fillK_succ c y L hk, ptCells_set _ _ _ (by rw [fillK_len]; exact hk)]
  exact b1
end Go.Proofs.Ytjomgjlicfoehaa
