import Derived.Test.YtigghbehnnghnaaRmA
namespace Go.Proofs.Ytigghbehnnghnaa
open Go.RowKit Go.RowBits Go.MapRaw Go.Maps
set_option linter.unusedSimpArgs false
set_option linter.unusedVariables false

/-! ### Row and Next of a book that is not full -/
/-- Blocks below a book's base are kept by its calls. -/
theorem Blks.yf {B : Nat} {w w' : World} {l : List (Nat × Array Value × Nat)} (h : Blks w l) (hl : ∀ x ∈ l, x.1 < B) (hy : YF B w w') : Blks w' l := fun x hx => (hy.1.block x.1 (hl x hx)).trans (h x hx)
theorem has_of {w : World} {g n cap : Nat} {l : List Nat} (h : YBlk w g l) (hl : l.length = n) : HasY w (.slice (some ⟨g, 0, none⟩) n cap) l := by
  subst hl
  exact h.has
section
variable {p : BP} {B : Nat} {W W' : World} {bk bn bw : Nat} {rows : List (List Nat)} {wk : List ((Nat × Nat × Nat) × Nat)}
/-- What a row's coming does to the list. -/
structure Came (most : Nat) (rows : List (List Nat)) (r : List Nat) (R : List (List Nat)) (i : Nat) : Prop where
  eR : R = after rows most r
  ei : i = idOf rows most r
  lt : i < R.length
  get : R.getD i [] = r
  old : ∀ j, j < rows.length → R.getD j [] = rows.getD j []
  le : rows.length ≤ R.length
  le1 : R.length ≤ rows.length + 1
theorem Came.of {most : Nat} {rows : List (List Nat)} {r : List Nat} (h : errOf rows most r = 0) : Came most rows r (after rows most r) (idOf rows most r) :=
  ⟨rfl, rfl, (after_id rows most r h).1, (after_id rows most r h).2, fun j hj => after_get rows most r hj, after_len rows most r, after_len1 rows most r⟩
theorem rowStep (h : Book p B W bk bn bw rows wk) (hw : WkOk p rows wk) (hn : 1 ≤ p.n ∧ p.n ≤ 65536) {r : List Nat} (hlt : rows.length < p.most ∨ r ∈ rows) (hr : r.length = p.n) (hr2 : ∀ j, r.getD j 0 < 2) {v : Value} (hv : HasY W v r) :
    ∃ R i, Came p.most rows r R i ∧ WkOk p R wk ∧ Hid (Calls Try.prog 21 #[.pointer (some ⟨bk, 0, none⟩), v] W fun e w' => e = .returned (.tuple #[.int .i64 (i : Int), .int .i64 0]) ∧ Book p B w' bk bn bw R wk ∧ YF B W w') := by
  have he : errOf rows p.most r = 0 := by
    rcases hlt with h | h
    · exact errOf_lt r h
    · exact errOf_mem _ h
  refine ⟨_, _, Came.of he, hw.after _ _, ?_⟩
  have K := row21 h hn hr hr2 hv
  rw [he] at K
  exact K
theorem nextStep (S : Strip p.h p.born p.stay p.k (p.n : Int)) (h : Book p B W bk bn bw rows wk) (hw : WkOk p rows wk) {a b c : Nat} (ha : a < rows.length) (hb : b < rows.length) (hc : c < rows.length) (hn : 1 ≤ p.n ∧ p.n ≤ 65536) (hlt : rows.length < p.most ∨ nextRow p rows a b c ∈ rows) :
    ∃ R i, Came p.most rows (nextRow p rows a b c) R i ∧ Hid (Calls Try.prog 22 #[.pointer (some ⟨bk, 0, none⟩), .int .i64 (a : Int), .int .i64 (b : Int), .int .i64 (c : Int)] W fun e w' => e = .returned (.tuple #[.int .i64 (i : Int), .int .i64 0]) ∧ (∃ wk', Book p B w' bk bn bw R wk' ∧ WkOk p R wk') ∧ YF B W w') := by
  have he : errOf rows p.most (nextRow p rows a b c) = 0 := by
    rcases hlt with h | h
    · exact errOf_lt _ h
    · exact errOf_mem _ h
  refine ⟨_, _, Came.of he, ?_⟩
  have K := next22 S h hw ha hb hc hn
  rw [he] at K
  exact K
/-- The empty rows come to the empty one. -/
theorem winL_zero {h : Int} {born stay : Nat} {k : Int} {n : Nat} (S : Strip h born stay k (n : Int)) (R : Nat → List Nat) (hR : ∀ i, i < 3 → R i = List.replicate n 0) : winL h born stay k n R = List.replicate n 0 := by
  have hz : ∀ (m j : Nat), (List.replicate m 0 : List Nat).getD j 0 = 0 := fun m j => by
    by_cases hj : j < m
    · simp [hj]
    · simp [List.getD, List.getElem?_eq_none (l := List.replicate m 0) (i := j) (by simp; omega)]
  have hnbr : ∀ x j, j < (offs h).length → nbr k n R x ((offs h).getD j (0, 0)) = 0 := fun x j hj => by
    unfold nbr
    have h4 := offsN S.hh j hj
    split
    · rw [hR _ (by omega), hz]
    · rfl
  have harn : ∀ x, arnd h k n R x = List.replicate (offs h).length 0 := fun x => by
    refine extY (by rw [arnd_len]; simp) fun j hj => ?_
    rw [arnd_len] at hj
    unfold arnd
    rw [markY_get _ _ (by simpa using hj), if_pos hj, hnbr x j hj, hz]
  unfold winL
  refine extY (by rw [markY_len]) fun j hj => ?_
  rw [markY_len] at hj
  have hj' : j < n := by simpa using hj
  rw [markY_get _ _ hj, if_pos hj', hz]
  unfold winBit
  rw [harn, ones_zero, hR 1 (by omega), hz]
  have : lineBit born stay 0 (0 == 1) = false := by
    unfold lineBit
    simp [S.h0]
  rw [this]
  rfl
end
end Go.Proofs.Ytigghbehnnghnaa
