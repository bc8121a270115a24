import Derived.Test.YtigghbehnnghnaaRlP
namespace Go.Proofs.Ytigghbehnnghnaa
open Go.RowKit Go.RowBits Go.MapRaw Go.Maps
set_option linter.unusedSimpArgs false
set_option linter.unusedVariables false

theorem after_get (rows : List (List Nat)) (most : Nat) (r : List Nat) {i : Nat} (hi : i < rows.length) : (after rows most r).getD i [] = rows.getD i [] := by
  unfold after
  by_cases h1 : r ∈ rows
  · rw [if_pos h1]
  · rw [if_neg h1]
    by_cases h2 : most ≤ rows.length
    · rw [if_pos h2]
    · rw [if_neg h2]; simp [List.getElem?_append_left hi]
theorem after_len (rows : List (List Nat)) (most : Nat) (r : List Nat) : rows.length ≤ (after rows most r).length := by
  unfold after
  by_cases h1 : r ∈ rows
  · rw [if_pos h1]; exact Nat.le_refl _
  · rw [if_neg h1]
    by_cases h2 : most ≤ rows.length
    · rw [if_pos h2]; exact Nat.le_refl _
    · rw [if_neg h2]; simp
theorem after_id (rows : List (List Nat)) (most : Nat) (r : List Nat) (h : errOf rows most r = 0) : idOf rows most r < (after rows most r).length ∧ (after rows most r).getD (idOf rows most r) [] = r := by
  unfold after idOf errOf at *
  by_cases h1 : r ∈ rows
  · simp only [if_pos h1] at *
    have hid : rows.idxOf r < rows.length := List.idxOf_lt_length_iff.2 h1
    exact ⟨hid, by simp [hid]⟩
  · simp only [if_neg h1] at *
    by_cases h2 : most ≤ rows.length
    · rw [if_pos h2] at h; cases h
    · simp only [if_neg h2] at *
      exact ⟨by simp, by simp⟩
theorem sel3_after {rows : List (List Nat)} {most : Nat} {r : List Nat} {a b c : Nat} (ha : a < rows.length) (hb : b < rows.length) (hc : c < rows.length) : sel3 (after rows most r) a b c = sel3 rows a b c := by
  funext i
  unfold sel3
  rw [after_get rows most r ha, after_get rows most r hb, after_get rows most r hc]
theorem WkOk.after {p : BP} {rows : List (List Nat)} {wk : List ((Nat × Nat × Nat) × Nat)} (h : WkOk p rows wk) (most : Nat) (r : List Nat) : WkOk p (after rows most r) wk := fun x hx => by
  obtain ⟨h1, h2, h3, h4, h5⟩ := h x hx
  have hl := after_len rows most r
  refine ⟨by omega, by omega, by omega, by omega, ?_⟩
  rw [after_get rows most r h4, h5]
  unfold nextRow
  rw [sel3_after h1 h2 h3]
theorem WkOk.snoc {p : BP} {rows : List (List Nat)} {wk : List ((Nat × Nat × Nat) × Nat)} {most a b c : Nat} (h : WkOk p rows wk) (ha : a < rows.length) (hb : b < rows.length) (hc : c < rows.length) (he : errOf rows most (nextRow p rows a b c) = 0) :
    WkOk p (Go.Proofs.Ytigghbehnnghnaa.after rows most (nextRow p rows a b c)) (wk ++ [((a, b, c), idOf rows most (nextRow p rows a b c))]) := fun x hx => by
  rcases List.mem_append.1 hx with hx | hx
  · exact h.after most _ x hx
  · simp at hx
    subst hx
    have hl := after_len rows most (nextRow p rows a b c)
    have hi := after_id rows most (nextRow p rows a b c) he
    refine ⟨by show a < _; omega, by show b < _; omega, by show c < _; omega, hi.1, ?_⟩
    show (Go.Proofs.Ytigghbehnnghnaa.after rows most (nextRow p rows a b c)).getD _ [] = _
    rw [hi.2]
    unfold nextRow
    rw [sel3_after ha hb hc]
theorem wrkL_snoc (wk : List ((Nat × Nat × Nat) × Nat)) (a b c i : Nat) : wrkL (wk ++ [((a, b, c), i)]) = wrkL wk ++ [(idv a b c, .int .i64 (i : Int))] := by unfold wrkL; simp
theorem BookAt.putW {p : BP} {B : Nat} {W W' : World} {bk bn bw : Nat} {kv : Value} {ks : List Value} {rows : List (List Nat)} {wk wk' : List ((Nat × Nat × Nat) × Nat)} (h : BookAt p B W bk bn bw kv ks rows wk) (hg : W.grownBy W' (some bw)) (hM : MapIs Try.prog 104 W' bw (wrkL wk'))
    (hin : ∀ x ∈ wk', x.1.1 < rows.length ∧ x.1.2.1 < rows.length ∧ x.1.2.2 < rows.length ∧ x.2 < rows.length) : BookAt p B W' bk bn bw kv ks rows wk' := by
  have hbw : ∃ es ck, W.heap[bw]? = some (.map es ck) := by obtain ⟨es, ck, hb, _⟩ := h.wrk; exact ⟨es, ck, hb⟩
  obtain ⟨es, ck, hb⟩ := hbw
  have hne : ∀ (g : Nat) (cs : Array Value) (T : Nat) (fz : Nat × Nat), W.heap[g]? = some (.cells cs T fz) → some g ≠ some bw := fun g cs T fz hg e => by
    injection e with e
    exact ne_blocks hg hb (by simp) e
  have hcell : ∀ (g : Nat) (cs : Array Value) (T : Nat) (fz : Nat × Nat), W.heap[g]? = some (.cells cs T fz) → W'.heap[g]? = some (.cells cs T fz) := fun g cs T fz hc => (hg.block g (Array.getElem?_eq_some_iff.1 hc).1 (hne g cs T fz hc)).trans hc
  refine ⟨hcell _ _ _ _ h.blk, h.num.grown hg (fun e => h.nw (by injection e)), hM, h.nw, h.Bk, h.Bn, h.Bw, ?_, ?_, h.len, h.two, h.nodup, h.most, h.m1, hin⟩
  · refine h.kept.kept hg ?_
    rcases h.kept.2 with ⟨e, _⟩ | ⟨g, cp, cur, e, _, hg2, _⟩
    · exact .inl (by rw [e]; rfl)
    · exact .inr (by rw [e]; exact hne g _ _ _ hg2)
  · intro i hi
    obtain ⟨g, h1, h2⟩ := h.row i hi
    exact ⟨g, h1, hcell _ _ _ _ h2⟩
theorem winL_lt (h : Int) (born stay : Nat) (k : Int) (n : Nat) (R : Nat → List Nat) (j : Nat) : (winL h born stay k n R).getD j 0 < 2 := by
  by_cases hj : j < n
  · unfold winL
    rw [markY_get _ _ (by simpa using hj), if_pos hj]
    unfold winBit
    split <;> omega
  · have : (winL h born stay k n R).length ≤ j := by rw [winL_len]; omega
    simp [this]
end Go.Proofs.Ytigghbehnnghnaa
