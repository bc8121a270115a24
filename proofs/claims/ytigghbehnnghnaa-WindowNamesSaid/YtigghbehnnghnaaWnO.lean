import Derived.Test.YtigghbehnnghnaaWnN
namespace Go.Proofs.Ytigghbehnnghnaa
attribute [local go_sem] RegInv.putAll
open Go.RowKit Go.RowBits
set_option linter.unusedSimpArgs false
set_option linter.unusedVariables false

/-! ### alive -/
def SlY (g : Nat) : Value := .slice (some ⟨g, 0, none⟩) 4 4
/-- What the first operations of the line's region come to. -/
def PrB (i : Nat) (v : Value) (w' : World) : Prop :=
  match i with
  | 0 => v = lifeRule 1 8 12
  | 1 => v = topoV 2 4 0
  | 2 => ∃ g, v = .slice (some ⟨g, 0, none⟩) 4 4 ∧ YBlk w' g [1, 1, 0, 1]
  | 3 | 4 => ∃ g, v = .slice (some ⟨g, 0, none⟩) 4 4 ∧ YBlk w' g [0, 0, 0, 0]
  | 5 | 6 => ∃ g, v = .tuple #[.slice (some ⟨g, 0, none⟩) 4 4, .int .i64 0] ∧ YBlk w' g [1, 0, 0, 0]
  | 7 | 9 => ∃ g, v = .slice (some ⟨g, 0, none⟩) 4 4 ∧ YBlk w' g [1, 0, 0, 0]
  | 8 => v = .int .i64 0
  | _ => True
theorem PrB.mono (i : Nat) (v : Value) (w1 w2 : World) (h : PrB i v w1) (hb : Below w1.heap.size w1 w2) : PrB i v w2 := by
  match i, h with
  | 0, h | 1, h | 8, h => exact h
  | 2, ⟨g, e, hY⟩ => exact ⟨g, e, hY.kept hb⟩
  | 3, ⟨g, e, hY⟩ => exact ⟨g, e, hY.kept hb⟩
  | 4, ⟨g, e, hY⟩ => exact ⟨g, e, hY.kept hb⟩
  | 5, ⟨g, e, hY⟩ => exact ⟨g, e, hY.kept hb⟩
  | 6, ⟨g, e, hY⟩ => exact ⟨g, e, hY.kept hb⟩
  | 7, ⟨g, e, hY⟩ => exact ⟨g, e, hY.kept hb⟩
  | 9, ⟨g, e, hY⟩ => exact ⟨g, e, hY.kept hb⟩
  | (_ + 10), _ => exact trivial
theorem zz_cell {w : World} {b o : Nat} {u : Value} (hz : w.heap[b]? = some (.cells #[.int .i64 0, .int .i64 0, .slice none 0 0] 73 (0, 0))) (h : w.cell? ⟨b, o, none⟩ = some u) : u = .int .i64 0 ∨ u = .slice none 0 0 := by
  rw [cell_of_row w b o _ 73 (0, 0) hz] at h
  match o, h with
  | 0, h => injection h with h; exact .inl h.symm
  | 1, h => injection h with h; exact .inl h.symm
  | 2, h => injection h with h; exact .inr h.symm
  | (o + 3), h => simp at h
theorem cell_off {w w' : World} {b g o : Nat} {u : Value} (he : ∀ g, g ≠ b → w'.heap[g]? = w.heap[g]?) (hg : g ≠ b) (h : w.cell? ⟨g, o, none⟩ = some u) : w'.cell? ⟨g, o, none⟩ = some u := (World.cell?_of_block (w := w) (w' := w') (a := ⟨g, o, none⟩) (he g hg)).trans h
theorem HasL.apart {w w' : World} {v : Value} {R : List (List Nat)} {b : Nat} (h : HasL w v R) (hp : ∀ i, i < R.length → 0 < (R.getD i []).length) (hz : w.heap[b]? = some (.cells #[.int .i64 0, .int .i64 0, .slice none 0 0] 73 (0, 0))) (he : ∀ g, g ≠ b → w'.heap[g]? = w.heap[g]?) : HasL w' v R := by
  obtain ⟨ad, cap, e, hl, hc⟩ := h
  refine ⟨ad, cap, e, hl, fun i hi => ?_⟩
  obtain ⟨g, o, u, h1, h2, ⟨a2, c2, h3, h4⟩⟩ := hc i hi
  have hg : g ≠ b := fun e => by
    rw [e] at h2
    rcases zz_cell hz h2 with h | h
    · rw [h] at h3; cases h3
    · rw [h] at h3
      injection h3 with _ h3 _
      have := hp i hi
      omega
  refine ⟨g, o, u, h1, cell_off he hg h2, a2, c2, h3, fun j hj => ?_⟩
  obtain ⟨g2, o2, h5, h6⟩ := h4 j hj
  have hg2 : g2 ≠ b := fun e => by
    rw [e] at h6
    rcases zz_cell hz h6 with h | h <;> cases h
  exact ⟨g2, o2, h5, cell_off he hg2 h6⟩
theorem C1_pos : ∀ i, i < C1.length → 0 < (C1.getD i []).length := by decide
theorem C3_pos : ∀ i, i < C3.length → 0 < (C3.getD i []).length := by decide
/-- What the first operations of the band's region come to. -/
def PrA (N : Nat) (i : Nat) (v : Value) (w' : World) : Prop :=
  match i with
  | 0 => v = lifeRule 1 8 12
  | 1 => v = topoV 2 4 0
  | 2 => ∃ g, v = .slice (some ⟨g, 0, none⟩) 4 4 ∧ YBlk w' g [1, 1, 1, 0]
  | 3 => ∃ g, v = .slice (some ⟨g, 0, none⟩) 1 1 ∧ HasL w' (.slice (some ⟨g, 0, none⟩) 1 1) C1
  | 4 => ∃ g, v = bandV 4 0 (.slice (some ⟨g, 0, none⟩) 1 1) ∧ HasL w' (.slice (some ⟨g, 0, none⟩) 1 1) C1
  | 5 | 6 => ∃ x c, v = .tuple #[bandV 4 (-1) (.slice x 3 c), .int .i64 0] ∧ HasL w' (.slice x 3 c) C3
  | 7 => ∃ x c, v = bandV 4 (-1) (.slice x 3 c) ∧ HasL w' (.slice x 3 c) C3
  | 8 => v = .int .i64 0
  | 10 => ∃ b x c, v = .pointer (some ⟨b, 0, none⟩) ∧ N ≤ b ∧ w'.heap[b]? = some (.cells #[.int .i64 4, .int .i64 (-1), .slice x 3 c] 73 (0, 0)) ∧ HasL w' (.slice x 3 c) C3
  | _ => True
theorem PrA.mono {N : Nat} (i : Nat) (v : Value) (w1 w2 : World) (h : PrA N i v w1) (hb : Below w1.heap.size w1 w2) : PrA N i v w2 := by
  match i, h with
  | 0, h | 1, h | 8, h => exact h
  | 9, _ => exact trivial
  | 2, ⟨g, e, hY⟩ => exact ⟨g, e, hY.kept hb⟩
  | 3, ⟨g, e, hY⟩ => exact ⟨g, e, hY.kept hb⟩
  | 4, ⟨g, e, hY⟩ => exact ⟨g, e, hY.kept hb⟩
  | 5, ⟨x, c, e, hY⟩ => exact ⟨x, c, e, hY.kept hb⟩
  | 6, ⟨x, c, e, hY⟩ => exact ⟨x, c, e, hY.kept hb⟩
  | 7, ⟨x, c, e, hY⟩ => exact ⟨x, c, e, hY.kept hb⟩
  | 10, ⟨b, x, c, e, hN, hh, hY⟩ => exact ⟨b, x, c, e, hN, (hb.block b (Array.getElem?_eq_some_iff.1 hh).1).trans hh, hY.kept hb⟩
  | (_ + 11), _ => exact trivial
theorem PrA.store {N b : Nat} {w1 w2 : World} (hz : w1.heap[b]? = some (.cells #[.int .i64 0, .int .i64 0, .slice none 0 0] 73 (0, 0))) (he : ∀ g, g ≠ b → w2.heap[g]? = w1.heap[g]?) (i : Nat) (v : Value) (hi : i ≠ 10) (h : PrA N i v w1) : PrA N i v w2 := by
  have hy : ∀ g l, YBlk w1 g l → YBlk w2 g l := fun g l hY => (he g (fun e => by
    rw [e] at hY
    have h2 : w1.heap[b]? = some (.cells (l.map yv).toArray 5 (0, 0)) := hY
    rw [hz] at h2
    injection h2 with h2
    injection h2 with _ h2 _
    cases h2)).trans hY
  match i, h with
  | 0, h | 1, h | 8, h => exact h
  | 9, _ => exact trivial
  | 2, ⟨g, e, hY⟩ => exact ⟨g, e, hy _ _ hY⟩
  | 3, ⟨g, e, hY⟩ => exact ⟨g, e, hY.apart C1_pos hz he⟩
  | 4, ⟨g, e, hY⟩ => exact ⟨g, e, hY.apart C1_pos hz he⟩
  | 5, ⟨x, c, e, hY⟩ => exact ⟨x, c, e, hY.apart C3_pos hz he⟩
  | 6, ⟨x, c, e, hY⟩ => exact ⟨x, c, e, hY.apart C3_pos hz he⟩
  | 7, ⟨x, c, e, hY⟩ => exact ⟨x, c, e, hY.apart C3_pos hz he⟩
  | 10, _ => exact absurd rfl hi
  | (_ + 11), _ => exact trivial
/-- The band's region: with the block that is laid for the band. -/
def InvA (W : World) (L : Nat → Bool) (vs : List Value) (w' : World) : Prop :=
  RegInv.ILv (PrA W.heap.size) 11 W L vs w' ∧ (L 10 = true → L 9 = true) ∧
    (L 9 = true → L 10 = false → ∃ b, vs.getD 9 undef = .pointer (some ⟨b, 0, none⟩) ∧ vs.getD 10 undef = .pointer (some ⟨b, 0, none⟩) ∧ W.heap.size ≤ b ∧ w'.heap[b]? = some (.cells #[.int .i64 0, .int .i64 0, .slice none 0 0] 73 (0, 0)))
theorem InvA.step {W w' w'' : World} {L : Nat → Bool} {vs : List Value} (hv : vs.length = 11) (hB : Below W.heap.size W w') (hP : ∀ i, i < 11 → L i = true → PrA W.heap.size i (vs.getD i undef) w') (h10 : L 10 = true → L 9 = true)
    (hX : L 9 = true → L 10 = false → ∃ b, vs.getD 9 undef = .pointer (some ⟨b, 0, none⟩) ∧ vs.getD 10 undef = .pointer (some ⟨b, 0, none⟩) ∧ W.heap.size ≤ b ∧ w'.heap[b]? = some (.cells #[.int .i64 0, .int .i64 0, .slice none 0 0] 73 (0, 0)))
    (i : Nat) (h9i : i ≠ 9) (h10i : i ≠ 10) (v : Value) (hb : Below w'.heap.size w' w'') (hi : PrA W.heap.size i v w'') : InvA W (fun j => decide (j = i) || L j) (vs.set i v) w'' := by
  have e9 : (decide (9 = i) || L 9) = L 9 := by rw [decide_eq_false (fun e => h9i e.symm), Bool.false_or]
  have e10 : (decide (10 = i) || L 10) = L 10 := by rw [decide_eq_false (fun e => h10i e.symm), Bool.false_or]
  refine ⟨RegInv.ILv.step PrA.mono hv hB hP i v hb hi, fun h => ?_, fun h h' => ?_⟩
  · show (decide (9 = i) || L 9) = true
    rw [e9]
    exact h10 (by rw [← e10]; exact h)
  · obtain ⟨b, q1, q2, q3, q4⟩ := hX (by rw [← e9]; exact h) (by rw [← e10]; exact h')
    refine ⟨b, ?_, ?_, q3, (hb.block b (Array.getElem?_eq_some_iff.1 q4).1).trans q4⟩
    · rw [← q1]; simp [List.getD, List.getElem?_set, h9i]
    · rw [← q2]; simp [List.getD, List.getElem?_set, h10i]
set_option maxRecDepth 20000 in
set_option maxHeartbeats 8000000 in
theorem alive31 (w : World) : Calls Try.prog 31 #[] w fun e w' => e = .returned (.bool true) ∧ Below w.heap.size w w' := by
  go_enter Try.func31, Try.ntmps31
  go_upto_region 2 with fail
  obtain ⟨W1, hW1⟩ : ∃ W1, W1 = w.alloc (.cells #[.int .u8 2, .int .i64 4, .int .i64 0, .int .u8 0, .int .i64 0] 49) := ⟨_, rfl⟩
  have E1 : Hid (Blks W1 [(w.heap.size, #[.int .u8 2, .int .i64 4, .int .i64 0, .int .u8 0, .int .i64 0], 49)]) := by rw [hW1]; exact (Blks.nil w).alloc rfl _ 49
  have hB1 : Hid (Below w.heap.size w W1) := by rw [hW1]; exact below_new _
  have hz1 : w.heap.size < W1.heap.size := by rw [hW1]; simp
  rw [← hW1]
  clear hW1
  refine RegInv.wp_region_inv 11 [9, 10, 11, 12, 13, 14, 8, 15, 16, 2, 2] (InvA W1) (by kernel_rfl) (by kernel_rfl) ?_ ?_ ?_
  · exact ⟨RegInv.ILv.start _ 11 (by simp) (Below.refl _ _).drew, fun h => h, fun h => by cases h⟩
  · intro i hi L vs w' hLi hd hI K hK
    obtain ⟨⟨hlen, hB9, hA0⟩, h10, hX0⟩ := hI
    obtain ⟨us, rfl⟩ := RegInv.list_fn hlen
    have hA : ∀ i, i < 11 → L i = true → PrA W1.heap.size i ([us 0, us 1, us 2, us 3, us 4, us 5, us 6, us 7, us 8, us 9, us 10].getD i undef) w' := hA0
    have hX : L 9 = true → L 10 = false → ∃ b, ([us 0, us 1, us 2, us 3, us 4, us 5, us 6, us 7, us 8, us 9, us 10] : List Value).getD 9 undef = .pointer (some ⟨b, 0, none⟩) ∧ ([us 0, us 1, us 2, us 3, us 4, us 5, us 6, us 7, us 8, us 9, us 10] : List Value).getD 10 undef = .pointer (some ⟨b, 0, none⟩) ∧ W1.heap.size ≤ b ∧ w'.heap[b]? = some (.cells #[.int .i64 0, .int .i64 0, .slice none 0 0] 73 (0, 0)) := hX0
    change wpOp _ _ _ _ _ (RegInv.putAll _ _ [us 0, us 1, us 2, us 3, us 4, us 5, us 6, us 7, us 8, us 9, us 10]) _
    clear hlen hA0 hX0
    generalize us 0 = u0 at hA hX ⊢
    generalize us 1 = u1 at hA hX ⊢
    generalize us 2 = u2 at hA hX ⊢
    generalize us 3 = u3 at hA hX ⊢
    generalize us 4 = u4 at hA hX ⊢
    generalize us 5 = u5 at hA hX ⊢
    generalize us 6 = u6 at hA hX ⊢
    generalize us 7 = u7 at hA hX ⊢
    generalize us 8 = u8 at hA hX ⊢
    generalize us 9 = u9 at hA hX ⊢
    generalize us 10 = u10 at hA hX ⊢
    clear us
    have hEw := Lib.hid (E1.out.kept hB9)
    match i, hi with
        | 0, _ =>
          refine wpOp_step rfl (fun K' hK' => ?_)
          go_simp
          refine (conway29 _).mono ?_
          rintro e w6 ⟨rfl, hb⟩
          have hb6 := Lib.hid hb
          clear hb
          have hI : InvA W1 (fun j => decide (j = 0) || L j) [(lifeRule 1 8 12), u1, u2, u3, u4, u5, u6, u7, u8, u9, u10] w6 := InvA.step (vs := [u0, u1, u2, u3, u4, u5, u6, u7, u8, u9, u10]) rfl hB9 hA h10 hX 0 (by omega) (by omega) (lifeRule 1 8 12) hb6.out (rfl)
          have hk := hK' _ _ (hK _ _ hI)
          revert hk
          go_simp
        | 1, _ =>
          have t0 : w'.cell? ⟨w.heap.size, 0, none⟩ = some (.int .u8 2) := hEw.out.cell (cs := #[.int .u8 2, .int .i64 4, .int .i64 0, .int .u8 0, .int .i64 0]) (T := 49) (by simp) rfl
          have t1 : w'.cell? ⟨w.heap.size, 1, none⟩ = some (.int .i64 4) := hEw.out.cell (cs := #[.int .u8 2, .int .i64 4, .int .i64 0, .int .u8 0, .int .i64 0]) (T := 49) (by simp) rfl
          have t2 : w'.cell? ⟨w.heap.size, 2, none⟩ = some (.int .i64 0) := hEw.out.cell (cs := #[.int .u8 2, .int .i64 4, .int .i64 0, .int .u8 0, .int .i64 0]) (T := 49) (by simp) rfl
          have t3 : w'.cell? ⟨w.heap.size, 3, none⟩ = some (.int .u8 0) := hEw.out.cell (cs := #[.int .u8 2, .int .i64 4, .int .i64 0, .int .u8 0, .int .i64 0]) (T := 49) (by simp) rfl
          have t4 : w'.cell? ⟨w.heap.size, 4, none⟩ = some (.int .i64 0) := hEw.out.cell (cs := #[.int .u8 2, .int .i64 4, .int .i64 0, .int .u8 0, .int .i64 0]) (T := 49) (by simp) rfl
          refine wpOp_step rfl (fun K' hK' => ?_)
          go_simp
          have hI : InvA W1 (fun j => decide (j = 1) || L j) [u0, (topoV 2 4 0), u2, u3, u4, u5, u6, u7, u8, u9, u10] w' := InvA.step (vs := [u0, u1, u2, u3, u4, u5, u6, u7, u8, u9, u10]) rfl hB9 hA h10 hX 1 (by omega) (by omega) (topoV 2 4 0) (Below.refl _ _) (rfl)
          have hk := hK' _ _ (hK _ _ hI)
          revert hk
          go_simp
        | 2, _ =>
          refine wpOp_step rfl (fun K' hK' => ?_)
          go_simp
          have hI : InvA W1 (fun j => decide (j = 2) || L j) [u0, u1, (.slice (some ⟨w'.heap.size, 0, none⟩) 4 4), u3, u4, u5, u6, u7, u8, u9, u10] (w'.alloc (.cells #[.int .u8 1, .int .u8 1, .int .u8 1, .int .u8 0] 5)) := InvA.step (vs := [u0, u1, u2, u3, u4, u5, u6, u7, u8, u9, u10]) rfl hB9 hA h10 hX 2 (by omega) (by omega) (.slice (some ⟨w'.heap.size, 0, none⟩) 4 4) (below_new _) (⟨w'.heap.size, rfl, YBlk.new w' _ _ rfl⟩)
          have hk := hK' _ _ (hK _ _ hI)
          revert hk
          go_simp
        | 3, _ =>
          have hd' : ([2] : List Nat).all L = true := hd
          simp only [List.all_cons, List.all_nil, Bool.and_true, Bool.and_eq_true] at hd'
          have hp2 : PrA W1.heap.size 2 u2 w' := hA 2 (by omega) (hd')
          obtain ⟨g2, rfl, Y2⟩ := hp2
          have hL1 : Hid (HasL (w'.alloc (.cells #[.slice (some ⟨g2, 0, none⟩) 4 4] 53)) (.slice (some ⟨w'.heap.size, 0, none⟩) 1 1) C1) := by
            refine ⟨some ⟨w'.heap.size, 0, none⟩, 1, rfl, Nat.le_refl _, fun i hi => ?_⟩
            have : i < 1 := hi
            obtain rfl : i = 0 := by omega
            refine ⟨w'.heap.size, 0, .slice (some ⟨g2, 0, none⟩) 4 4, rfl, ?_, (Y2.kept (below_new _)).has⟩
            rw [cell_of_row _ _ 0 _ 53 (0, 0) (heap_alloc_new w' _)]
            rfl
          clear Y2
          refine wpOp_step rfl (fun K' hK' => ?_)
          go_simp
          have hI : InvA W1 (fun j => decide (j = 3) || L j) [u0, u1, (.slice (some ⟨g2, 0, none⟩) 4 4), (.slice (some ⟨w'.heap.size, 0, none⟩) 1 1), u4, u5, u6, u7, u8, u9, u10] (w'.alloc (.cells #[.slice (some ⟨g2, 0, none⟩) 4 4] 53)) := InvA.step (vs := [u0, u1, (.slice (some ⟨g2, 0, none⟩) 4 4), u3, u4, u5, u6, u7, u8, u9, u10]) rfl hB9 hA h10 hX 3 (by omega) (by omega) (.slice (some ⟨w'.heap.size, 0, none⟩) 1 1) (below_new _) (⟨w'.heap.size, rfl, hL1.out⟩)
          have hk := hK' _ _ (hK _ _ hI)
          revert hk
          go_simp
        | 4, _ =>
          have hd' : ([3] : List Nat).all L = true := hd
          simp only [List.all_cons, List.all_nil, Bool.and_true, Bool.and_eq_true] at hd'
          have hp3 : PrA W1.heap.size 3 u3 w' := hA 3 (by omega) (hd')
          obtain ⟨g3, rfl, Y3⟩ := hp3
          refine wpOp_step rfl (fun K' hK' => ?_)
          go_simp
          have hI : InvA W1 (fun j => decide (j = 4) || L j) [u0, u1, u2, (.slice (some ⟨g3, 0, none⟩) 1 1), (bandV 4 0 (.slice (some ⟨g3, 0, none⟩) 1 1)), u5, u6, u7, u8, u9, u10] w' := InvA.step (vs := [u0, u1, u2, (.slice (some ⟨g3, 0, none⟩) 1 1), u4, u5, u6, u7, u8, u9, u10]) rfl hB9 hA h10 hX 4 (by omega) (by omega) (bandV 4 0 (.slice (some ⟨g3, 0, none⟩) 1 1)) (Below.refl _ _) (⟨g3, rfl, Y3⟩)
          have hk := hK' _ _ (hK _ _ hI)
          revert hk
          go_simp
        | 5, _ =>
          have hd' : ([0, 1, 4, 0] : List Nat).all L = true := hd
          simp only [List.all_cons, List.all_nil, Bool.and_true, Bool.and_eq_true] at hd'
          have hp0 : PrA W1.heap.size 0 u0 w' := hA 0 (by omega) (hd'.1)
          obtain rfl : u0 = lifeRule 1 8 12 := hp0
          have hp1 : PrA W1.heap.size 1 u1 w' := hA 1 (by omega) (hd'.2.1)
          obtain rfl : u1 = topoV 2 4 0 := hp1
          have hp4 : PrA W1.heap.size 4 u4 w' := hA 4 (by omega) (hd'.2.2.1)
          obtain ⟨g4, rfl, Y4⟩ := hp4
          have KN := Lib.hid (nextC w' _ Y4)
          clear Y4
          refine wpOp_step rfl (fun K' hK' => ?_)
          go_simp
          refine (KN.out).mono ?_
          rintro e w6 ⟨⟨x, c, rfl, hL⟩, hb⟩
          have hL' := Lib.hid hL
          have hb6 := Lib.hid hb
          clear hL hb
          have hI : InvA W1 (fun j => decide (j = 5) || L j) [(lifeRule 1 8 12), (topoV 2 4 0), u2, u3, (bandV 4 0 (.slice (some ⟨g4, 0, none⟩) 1 1)), (.tuple #[bandV 4 (-1) (.slice x 3 c), .int .i64 0]), u6, u7, u8, u9, u10] w6 := InvA.step (vs := [(lifeRule 1 8 12), (topoV 2 4 0), u2, u3, (bandV 4 0 (.slice (some ⟨g4, 0, none⟩) 1 1)), u5, u6, u7, u8, u9, u10]) rfl hB9 hA h10 hX 5 (by omega) (by omega) (.tuple #[bandV 4 (-1) (.slice x 3 c), .int .i64 0]) hb6.out (⟨x, c, rfl, hL'.out⟩)
          have hk := hK' _ _ (hK _ _ hI)
          revert hk
          go_simp
        | 6, _ =>
          have hd' : ([5] : List Nat).all L = true := hd
          simp only [List.all_cons, List.all_nil, Bool.and_true, Bool.and_eq_true] at hd'
          have hp5 : PrA W1.heap.size 5 u5 w' := hA 5 (by omega) (hd')
          obtain ⟨x5, c5, rfl, Y5⟩ := hp5
          refine wpOp_step rfl (fun K' hK' => ?_)
          go_simp
          have hI : InvA W1 (fun j => decide (j = 6) || L j) [u0, u1, u2, u3, u4, (.tuple #[bandV 4 (-1) (.slice x5 3 c5), .int .i64 0]), (.tuple #[bandV 4 (-1) (.slice x5 3 c5), .int .i64 0]), u7, u8, u9, u10] w' := InvA.step (vs := [u0, u1, u2, u3, u4, (.tuple #[bandV 4 (-1) (.slice x5 3 c5), .int .i64 0]), u6, u7, u8, u9, u10]) rfl hB9 hA h10 hX 6 (by omega) (by omega) (.tuple #[bandV 4 (-1) (.slice x5 3 c5), .int .i64 0]) (Below.refl _ _) (⟨x5, c5, rfl, Y5⟩)
          have hk := hK' _ _ (hK _ _ hI)
          revert hk
          go_simp
        | 7, _ =>
          have hd' : ([6] : List Nat).all L = true := hd
          simp only [List.all_cons, List.all_nil, Bool.and_true, Bool.and_eq_true] at hd'
          have hp6 : PrA W1.heap.size 6 u6 w' := hA 6 (by omega) (hd')
          obtain ⟨x6, c6, rfl, Y6⟩ := hp6
          refine wpOp_step rfl (fun K' hK' => ?_)
          go_simp
          have hI : InvA W1 (fun j => decide (j = 7) || L j) [u0, u1, u2, u3, u4, u5, (.tuple #[bandV 4 (-1) (.slice x6 3 c6), .int .i64 0]), (bandV 4 (-1) (.slice x6 3 c6)), u8, u9, u10] w' := InvA.step (vs := [u0, u1, u2, u3, u4, u5, (.tuple #[bandV 4 (-1) (.slice x6 3 c6), .int .i64 0]), u7, u8, u9, u10]) rfl hB9 hA h10 hX 7 (by omega) (by omega) (bandV 4 (-1) (.slice x6 3 c6)) (Below.refl _ _) (⟨x6, c6, rfl, Y6⟩)
          have hk := hK' _ _ (hK _ _ hI)
          revert hk
          go_simp
        | 8, _ =>
          have hd' : ([6] : List Nat).all L = true := hd
          simp only [List.all_cons, List.all_nil, Bool.and_true, Bool.and_eq_true] at hd'
          have hp6 : PrA W1.heap.size 6 u6 w' := hA 6 (by omega) (hd')
          obtain ⟨x6, c6, rfl, Y6⟩ := hp6
          refine wpOp_step rfl (fun K' hK' => ?_)
          go_simp
          have hI : InvA W1 (fun j => decide (j = 8) || L j) [u0, u1, u2, u3, u4, u5, (.tuple #[bandV 4 (-1) (.slice x6 3 c6), .int .i64 0]), u7, (.int .i64 0), u9, u10] w' := InvA.step (vs := [u0, u1, u2, u3, u4, u5, (.tuple #[bandV 4 (-1) (.slice x6 3 c6), .int .i64 0]), u7, u8, u9, u10]) rfl hB9 hA h10 hX 8 (by omega) (by omega) (.int .i64 0) (Below.refl _ _) (rfl)
          have hk := hK' _ _ (hK _ _ hI)
          revert hk
          go_simp
        | 9, _ =>
          have hL10 : L 10 = false := by
            cases e : L 10 with
            | false => rfl
            | true => rw [h10 e] at hLi; cases hLi
          refine wpOp_step rfl (fun K' hK' => ?_)
          go_simp
          have hb0 : Below w'.heap.size w' (w'.alloc (.cells #[.int .i64 0, .int .i64 0, .slice none 0 0] 73)) := below_new _
          have hI : InvA W1 (fun j => decide (j = 9) || L j) [u0, u1, u2, u3, u4, u5, u6, u7, u8, .pointer (some ⟨w'.heap.size, 0, none⟩), .pointer (some ⟨w'.heap.size, 0, none⟩)] (w'.alloc (.cells #[.int .i64 0, .int .i64 0, .slice none 0 0] 73)) := by
            refine ⟨⟨rfl, below_then hB9 hb0 hB9.size, fun j hj hl => ?_⟩, fun h => ?_, fun _ _ => ⟨w'.heap.size, rfl, rfl, hB9.size, heap_alloc_new w' _⟩⟩
            · match j, hj with
              | 0, _ => exact PrA.mono 0 _ _ _ (hA 0 (by omega) (by simpa using hl)) hb0
              | 1, _ => exact PrA.mono 1 _ _ _ (hA 1 (by omega) (by simpa using hl)) hb0
              | 2, _ => exact PrA.mono 2 _ _ _ (hA 2 (by omega) (by simpa using hl)) hb0
              | 3, _ => exact PrA.mono 3 _ _ _ (hA 3 (by omega) (by simpa using hl)) hb0
              | 4, _ => exact PrA.mono 4 _ _ _ (hA 4 (by omega) (by simpa using hl)) hb0
              | 5, _ => exact PrA.mono 5 _ _ _ (hA 5 (by omega) (by simpa using hl)) hb0
              | 6, _ => exact PrA.mono 6 _ _ _ (hA 6 (by omega) (by simpa using hl)) hb0
              | 7, _ => exact PrA.mono 7 _ _ _ (hA 7 (by omega) (by simpa using hl)) hb0
              | 8, _ => exact PrA.mono 8 _ _ _ (hA 8 (by omega) (by simpa using hl)) hb0
              | 9, _ => exact trivial
              | 10, _ =>
                have : L 10 = true := by simpa using hl
                rw [hL10] at this
                cases this
              | (_ + 11), h18 => exact absurd h18 (by omega)
            · have : L 10 = true := by simpa using h
              rw [hL10] at this
              cases this
          have hk := hK' _ _ (hK _ _ hI)
          revert hk
          go_simp
        | 10, _ =>
          have hd' : ([9, 7, 5, 0, 1, 2, 3, 4, 5, 6, 7, 9] : List Nat).all L = true := hd
          simp only [List.all_cons, List.all_nil, Bool.and_true, Bool.and_eq_true] at hd'
          have h9t := hd'.1
          have hp7 : PrA W1.heap.size 7 u7 w' := hA 7 (by omega) hd'.2.1
          obtain ⟨x7, c7, rfl, Y7⟩ := hp7
          obtain ⟨b, q1, q2, q3, q4⟩ := hX h9t hLi
          obtain rfl : u9 = .pointer (some ⟨b, 0, none⟩) := q1
          obtain rfl : u10 = .pointer (some ⟨b, 0, none⟩) := q2
          have f0 : w'.frozen? ⟨b, 0, none⟩ = false := frozen_of_row w' _ 0 _ 73 q4
          have f1 : w'.frozen? ⟨b, 1, none⟩ = false := frozen_of_row w' _ 1 _ 73 q4
          have f2 : w'.frozen? ⟨b, 2, none⟩ = false := frozen_of_row w' _ 2 _ 73 q4
          have z0 : w'.cell? ⟨b, 0, none⟩ = some (.int .i64 0) := by rw [cell_of_row w' b 0 _ 73 (0, 0) q4]; rfl
          have z1 : w'.cell? ⟨b, 1, none⟩ = some (.int .i64 0) := by rw [cell_of_row w' b 1 _ 73 (0, 0) q4]; rfl
          have z2 : w'.cell? ⟨b, 2, none⟩ = some (.slice none 0 0) := by rw [cell_of_row w' b 2 _ 73 (0, 0) q4]; rfl
          have he : ∀ x y z : Value, ∀ g, g ≠ b → (((w'.setCell ⟨b, 0, none⟩ x).setCell ⟨b, 1, none⟩ y).setCell ⟨b, 2, none⟩ z).heap[g]? = w'.heap[g]? := fun x y z g hg => by
            rw [heap_setCell_other _ _ _ _ (by show g ≠ b; exact hg), heap_setCell_other _ _ _ _ (by show g ≠ b; exact hg), heap_setCell_other _ _ _ _ (by show g ≠ b; exact hg)]
          have hI : InvA W1 (fun j => decide (j = 10) || L j) [u0, u1, u2, u3, u4, u5, u6, bandV 4 (-1) (.slice x7 3 c7), u8, .pointer (some ⟨b, 0, none⟩), .pointer (some ⟨b, 0, none⟩)] (((w'.setCell ⟨b, 0, none⟩ (.int .i64 4)).setCell ⟨b, 1, none⟩ (.int .i64 (-1))).setCell ⟨b, 2, none⟩ (.slice x7 3 c7)) := by
            refine ⟨⟨rfl, ((hB9.setCell q3 _).setCell q3 _).setCell q3 _, fun j hj hl => ?_⟩, fun _ => by simpa using h9t, fun _ h => by simp at h⟩
            by_cases e : j = 10
            · subst e
              refine ⟨b, x7, c7, rfl, q3, ?_, Y7.apart C3_pos q4 (he _ _ _)⟩
              rw [heap_setCell_same _ _ 2 _ 73 _ (heap_setCell_same _ _ 1 _ 73 _ (heap_setCell_same _ _ 0 _ 73 _ q4))]
              rfl
            · exact PrA.store q4 (he _ _ _) j _ e (hA j hj (by simpa [e] using hl))
          have hI' := Lib.hid hI
          clear hI he q4 Y7
          refine wpOp_step rfl (fun K' hK' => ?_)
          go_simp
          have hk := hK' _ _ (hK _ _ hI'.out)
          revert hk
          go_simp
        | (_ + 11), h18 => exact absurd h18 (by omega)
  · intro vs w' hI
    obtain ⟨⟨hlen, hB9, hA0⟩, hu1, hu2⟩ := hI
    clear hu1 hu2
    obtain ⟨us, rfl⟩ := RegInv.list_fn hlen
    have hA : ∀ i, i < 11 → decide (i < 11) = true → PrA W1.heap.size i ([us 0, us 1, us 2, us 3, us 4, us 5, us 6, us 7, us 8, us 9, us 10].getD i undef) w' := hA0
    change wpList _ _ _ _ (RegInv.putAll _ _ [us 0, us 1, us 2, us 3, us 4, us 5, us 6, us 7, us 8, us 9, us 10]) _
    clear hlen hA0
    generalize us 0 = u0 at hA ⊢
    generalize us 1 = u1 at hA ⊢
    generalize us 2 = u2 at hA ⊢
    generalize us 3 = u3 at hA ⊢
    generalize us 4 = u4 at hA ⊢
    generalize us 5 = u5 at hA ⊢
    generalize us 6 = u6 at hA ⊢
    generalize us 7 = u7 at hA ⊢
    generalize us 8 = u8 at hA ⊢
    generalize us 9 = u9 at hA ⊢
    generalize us 10 = u10 at hA ⊢
    clear us
    obtain ⟨b2, x, c, rfl, hN2, hblk2, hL2⟩ : PrA W1.heap.size 10 u10 w' := hA 10 (by omega) (by decide)
    obtain rfl : u8 = .int .i64 0 := hA 8 (by omega) (by decide)
    have E2 := Lib.hid (E1.out.kept hB9)
    have hB2 := Lib.hid (below_then hB1.out hB9 hB1.out.size)
    have hblk2' := Lib.hid hblk2
    have hL2' := Lib.hid hL2
    clear hA hB9 hblk2 hL2
    simp only [List.drop_succ_cons, List.drop_zero]
    go_simp
    have hb2lt : b2 < w'.heap.size := (Array.getElem?_eq_some_iff.1 hblk2'.out).1
    rename World => W2
    go_upto_region 3 with fail
    refine RegInv.wp_region_inv 10 [18, 19, 20, 21, 22, 23, 17, 24, 25, 4] (RegInv.ILv PrB 10 W2) (by kernel_rfl) (by kernel_rfl) ?_ ?_ ?_
    · exact RegInv.ILv.start _ 10 (by simp) (Below.refl _ _).drew
    · intro i hi L vs w' hLi hd hI K hK
      obtain ⟨hlen, hB9, hA0⟩ := hI
      obtain ⟨us, rfl⟩ := RegInv.list_fn hlen
      have hA : ∀ i, i < 10 → L i = true → PrB i ([us 0, us 1, us 2, us 3, us 4, us 5, us 6, us 7, us 8, us 9].getD i undef) w' := hA0
      change wpOp _ _ _ _ _ (RegInv.putAll _ _ [us 0, us 1, us 2, us 3, us 4, us 5, us 6, us 7, us 8, us 9]) _
      clear hlen hA0
      generalize us 0 = u0 at hA ⊢
      generalize us 1 = u1 at hA ⊢
      generalize us 2 = u2 at hA ⊢
      generalize us 3 = u3 at hA ⊢
      generalize us 4 = u4 at hA ⊢
      generalize us 5 = u5 at hA ⊢
      generalize us 6 = u6 at hA ⊢
      generalize us 7 = u7 at hA ⊢
      generalize us 8 = u8 at hA ⊢
      generalize us 9 = u9 at hA ⊢
      clear us
      have hEw := Lib.hid (E2.out.kept hB9)
      match i, hi with
        | 0, _ =>
          refine wpOp_step rfl (fun K' hK' => ?_)
          go_simp
          refine (conway29 _).mono ?_
          rintro e w6 ⟨rfl, hb⟩
          have hb6 := Lib.hid hb
          clear hb
          have hI : RegInv.ILv PrB 10 W2 (fun j => decide (j = 0) || L j) [(lifeRule 1 8 12), u1, u2, u3, u4, u5, u6, u7, u8, u9] w6 := RegInv.ILv.step (Pr := PrB) (n := 10) (vs := [u0, u1, u2, u3, u4, u5, u6, u7, u8, u9]) PrB.mono rfl hB9 hA 0 (lifeRule 1 8 12) hb6.out (rfl)
          have hk := hK' _ _ (hK _ _ hI)
          revert hk
          go_simp
        | 1, _ =>
          have t0 : w'.cell? ⟨w.heap.size, 0, none⟩ = some (.int .u8 2) := hEw.out.cell (cs := #[.int .u8 2, .int .i64 4, .int .i64 0, .int .u8 0, .int .i64 0]) (T := 49) (by simp) rfl
          have t1 : w'.cell? ⟨w.heap.size, 1, none⟩ = some (.int .i64 4) := hEw.out.cell (cs := #[.int .u8 2, .int .i64 4, .int .i64 0, .int .u8 0, .int .i64 0]) (T := 49) (by simp) rfl
          have t2 : w'.cell? ⟨w.heap.size, 2, none⟩ = some (.int .i64 0) := hEw.out.cell (cs := #[.int .u8 2, .int .i64 4, .int .i64 0, .int .u8 0, .int .i64 0]) (T := 49) (by simp) rfl
          have t3 : w'.cell? ⟨w.heap.size, 3, none⟩ = some (.int .u8 0) := hEw.out.cell (cs := #[.int .u8 2, .int .i64 4, .int .i64 0, .int .u8 0, .int .i64 0]) (T := 49) (by simp) rfl
          have t4 : w'.cell? ⟨w.heap.size, 4, none⟩ = some (.int .i64 0) := hEw.out.cell (cs := #[.int .u8 2, .int .i64 4, .int .i64 0, .int .u8 0, .int .i64 0]) (T := 49) (by simp) rfl
          refine wpOp_step rfl (fun K' hK' => ?_)
          go_simp
          have hI : RegInv.ILv PrB 10 W2 (fun j => decide (j = 1) || L j) [u0, (topoV 2 4 0), u2, u3, u4, u5, u6, u7, u8, u9] w' := RegInv.ILv.step (Pr := PrB) (n := 10) (vs := [u0, u1, u2, u3, u4, u5, u6, u7, u8, u9]) PrB.mono rfl hB9 hA 1 (topoV 2 4 0) (Below.refl _ _) (rfl)
          have hk := hK' _ _ (hK _ _ hI)
          revert hk
          go_simp
        | 2, _ =>
          refine wpOp_step rfl (fun K' hK' => ?_)
          go_simp
          have hI : RegInv.ILv PrB 10 W2 (fun j => decide (j = 2) || L j) [u0, u1, (.slice (some ⟨w'.heap.size, 0, none⟩) 4 4), u3, u4, u5, u6, u7, u8, u9] (w'.alloc (.cells #[.int .u8 1, .int .u8 1, .int .u8 0, .int .u8 1] 5)) := RegInv.ILv.step (Pr := PrB) (n := 10) (vs := [u0, u1, u2, u3, u4, u5, u6, u7, u8, u9]) PrB.mono rfl hB9 hA 2 (.slice (some ⟨w'.heap.size, 0, none⟩) 4 4) (below_new _) (⟨w'.heap.size, rfl, YBlk.new w' _ _ rfl⟩)
          have hk := hK' _ _ (hK _ _ hI)
          revert hk
          go_simp
        | 3, _ =>
          refine wpOp_step rfl (fun K' hK' => ?_)
          go_simp
          have hI : RegInv.ILv PrB 10 W2 (fun j => decide (j = 3) || L j) [u0, u1, u2, (.slice (some ⟨w'.heap.size, 0, none⟩) 4 4), u4, u5, u6, u7, u8, u9] (w'.alloc (.cells #[.int .u8 0, .int .u8 0, .int .u8 0, .int .u8 0] 5)) := RegInv.ILv.step (Pr := PrB) (n := 10) (vs := [u0, u1, u2, u3, u4, u5, u6, u7, u8, u9]) PrB.mono rfl hB9 hA 3 (.slice (some ⟨w'.heap.size, 0, none⟩) 4 4) (below_new _) (⟨w'.heap.size, rfl, YBlk.new w' _ _ rfl⟩)
          have hk := hK' _ _ (hK _ _ hI)
          revert hk
          go_simp
        | 4, _ =>
          refine wpOp_step rfl (fun K' hK' => ?_)
          go_simp
          have hI : RegInv.ILv PrB 10 W2 (fun j => decide (j = 4) || L j) [u0, u1, u2, u3, (.slice (some ⟨w'.heap.size, 0, none⟩) 4 4), u5, u6, u7, u8, u9] (w'.alloc (.cells #[.int .u8 0, .int .u8 0, .int .u8 0, .int .u8 0] 5)) := RegInv.ILv.step (Pr := PrB) (n := 10) (vs := [u0, u1, u2, u3, u4, u5, u6, u7, u8, u9]) PrB.mono rfl hB9 hA 4 (.slice (some ⟨w'.heap.size, 0, none⟩) 4 4) (below_new _) (⟨w'.heap.size, rfl, YBlk.new w' _ _ rfl⟩)
          have hk := hK' _ _ (hK _ _ hI)
          revert hk
          go_simp
        | 5, _ =>
          have hd' : ([0, 1, 2, 3, 4, 0] : List Nat).all L = true := hd
          simp only [List.all_cons, List.all_nil, Bool.and_true, Bool.and_eq_true] at hd'
          have hp0 : PrB 0 u0 w' := hA 0 (by omega) (hd'.1)
          obtain rfl : u0 = lifeRule 1 8 12 := hp0
          have hp1 : PrB 1 u1 w' := hA 1 (by omega) (hd'.2.1)
          obtain rfl : u1 = topoV 2 4 0 := hp1
          have hp2 : PrB 2 u2 w' := hA 2 (by omega) (hd'.2.2.1)
          obtain ⟨g2, rfl, Y2⟩ := hp2
          have hp3 : PrB 3 u3 w' := hA 3 (by omega) (hd'.2.2.2.1)
          obtain ⟨g3, rfl, Y3⟩ := hp3
          have hp4 : PrB 4 u4 w' := hA 4 (by omega) (hd'.2.2.2.2.1)
          obtain ⟨g4, rfl, Y4⟩ := hp4
          have KL := Lib.hid (lineC w' Y2 Y3 Y4)
          clear Y2 Y3 Y4
          refine wpOp_step rfl (fun K' hK' => ?_)
          go_simp
          refine (KL.out).mono ?_
          rintro e w6 ⟨⟨g, rfl, hY⟩, hb⟩
          have hY' := Lib.hid hY
          have hb6 := Lib.hid hb
          clear hY hb
          have hI : RegInv.ILv PrB 10 W2 (fun j => decide (j = 5) || L j) [(lifeRule 1 8 12), (topoV 2 4 0), (.slice (some ⟨g2, 0, none⟩) 4 4), (.slice (some ⟨g3, 0, none⟩) 4 4), (.slice (some ⟨g4, 0, none⟩) 4 4), (.tuple #[.slice (some ⟨g, 0, none⟩) 4 4, .int .i64 0]), u6, u7, u8, u9] w6 := RegInv.ILv.step (Pr := PrB) (n := 10) (vs := [(lifeRule 1 8 12), (topoV 2 4 0), (.slice (some ⟨g2, 0, none⟩) 4 4), (.slice (some ⟨g3, 0, none⟩) 4 4), (.slice (some ⟨g4, 0, none⟩) 4 4), u5, u6, u7, u8, u9]) PrB.mono rfl hB9 hA 5 (.tuple #[.slice (some ⟨g, 0, none⟩) 4 4, .int .i64 0]) hb6.out (⟨g, rfl, hY'.out⟩)
          have hk := hK' _ _ (hK _ _ hI)
          revert hk
          go_simp
        | 6, _ =>
          have hd' : ([5] : List Nat).all L = true := hd
          simp only [List.all_cons, List.all_nil, Bool.and_true, Bool.and_eq_true] at hd'
          have hp5 : PrB 5 u5 w' := hA 5 (by omega) (hd')
          obtain ⟨g5, rfl, Y5⟩ := hp5
          refine wpOp_step rfl (fun K' hK' => ?_)
          go_simp
          have hI : RegInv.ILv PrB 10 W2 (fun j => decide (j = 6) || L j) [u0, u1, u2, u3, u4, (.tuple #[.slice (some ⟨g5, 0, none⟩) 4 4, .int .i64 0]), (.tuple #[.slice (some ⟨g5, 0, none⟩) 4 4, .int .i64 0]), u7, u8, u9] w' := RegInv.ILv.step (Pr := PrB) (n := 10) (vs := [u0, u1, u2, u3, u4, (.tuple #[.slice (some ⟨g5, 0, none⟩) 4 4, .int .i64 0]), u6, u7, u8, u9]) PrB.mono rfl hB9 hA 6 (.tuple #[.slice (some ⟨g5, 0, none⟩) 4 4, .int .i64 0]) (Below.refl _ _) (⟨g5, rfl, Y5⟩)
          have hk := hK' _ _ (hK _ _ hI)
          revert hk
          go_simp
        | 7, _ =>
          have hd' : ([6] : List Nat).all L = true := hd
          simp only [List.all_cons, List.all_nil, Bool.and_true, Bool.and_eq_true] at hd'
          have hp6 : PrB 6 u6 w' := hA 6 (by omega) (hd')
          obtain ⟨g6, rfl, Y6⟩ := hp6
          refine wpOp_step rfl (fun K' hK' => ?_)
          go_simp
          have hI : RegInv.ILv PrB 10 W2 (fun j => decide (j = 7) || L j) [u0, u1, u2, u3, u4, u5, (.tuple #[.slice (some ⟨g6, 0, none⟩) 4 4, .int .i64 0]), (.slice (some ⟨g6, 0, none⟩) 4 4), u8, u9] w' := RegInv.ILv.step (Pr := PrB) (n := 10) (vs := [u0, u1, u2, u3, u4, u5, (.tuple #[.slice (some ⟨g6, 0, none⟩) 4 4, .int .i64 0]), u7, u8, u9]) PrB.mono rfl hB9 hA 7 (.slice (some ⟨g6, 0, none⟩) 4 4) (Below.refl _ _) (⟨g6, rfl, Y6⟩)
          have hk := hK' _ _ (hK _ _ hI)
          revert hk
          go_simp
        | 8, _ =>
          have hd' : ([6] : List Nat).all L = true := hd
          simp only [List.all_cons, List.all_nil, Bool.and_true, Bool.and_eq_true] at hd'
          have hp6 : PrB 6 u6 w' := hA 6 (by omega) (hd')
          obtain ⟨g6, rfl, Y6⟩ := hp6
          refine wpOp_step rfl (fun K' hK' => ?_)
          go_simp
          have hI : RegInv.ILv PrB 10 W2 (fun j => decide (j = 8) || L j) [u0, u1, u2, u3, u4, u5, (.tuple #[.slice (some ⟨g6, 0, none⟩) 4 4, .int .i64 0]), u7, (.int .i64 0), u9] w' := RegInv.ILv.step (Pr := PrB) (n := 10) (vs := [u0, u1, u2, u3, u4, u5, (.tuple #[.slice (some ⟨g6, 0, none⟩) 4 4, .int .i64 0]), u7, u8, u9]) PrB.mono rfl hB9 hA 8 (.int .i64 0) (Below.refl _ _) (rfl)
          have hk := hK' _ _ (hK _ _ hI)
          revert hk
          go_simp
        | 9, _ =>
          have hd' : ([7, 5, 0, 1, 2, 3, 4, 5, 6, 7] : List Nat).all L = true := hd
          simp only [List.all_cons, List.all_nil, Bool.and_true, Bool.and_eq_true] at hd'
          have hp7 : PrB 7 u7 w' := hA 7 (by omega) (hd'.1)
          obtain ⟨g7, rfl, Y7⟩ := hp7
          refine wpOp_step rfl (fun K' hK' => ?_)
          go_simp
          have hI : RegInv.ILv PrB 10 W2 (fun j => decide (j = 9) || L j) [u0, u1, u2, u3, u4, u5, u6, (.slice (some ⟨g7, 0, none⟩) 4 4), u8, (.slice (some ⟨g7, 0, none⟩) 4 4)] w' := RegInv.ILv.step (Pr := PrB) (n := 10) (vs := [u0, u1, u2, u3, u4, u5, u6, (.slice (some ⟨g7, 0, none⟩) 4 4), u8, u9]) PrB.mono rfl hB9 hA 9 (.slice (some ⟨g7, 0, none⟩) 4 4) (Below.refl _ _) (⟨g7, rfl, Y7⟩)
          have hk := hK' _ _ (hK _ _ hI)
          revert hk
          go_simp
        | (_ + 10), h18 => exact absurd h18 (by omega)
    · intro vs w' hI
      obtain ⟨hlen, hB9, hA0⟩ := hI
      obtain ⟨us, rfl⟩ := RegInv.list_fn hlen
      have hA : ∀ i, i < 10 → decide (i < 10) = true → PrB i ([us 0, us 1, us 2, us 3, us 4, us 5, us 6, us 7, us 8, us 9].getD i undef) w' := hA0
      change wpList _ _ _ _ (RegInv.putAll _ _ [us 0, us 1, us 2, us 3, us 4, us 5, us 6, us 7, us 8, us 9]) _
      clear hlen hA0
      generalize us 0 = u0 at hA ⊢
      generalize us 1 = u1 at hA ⊢
      generalize us 2 = u2 at hA ⊢
      generalize us 3 = u3 at hA ⊢
      generalize us 4 = u4 at hA ⊢
      generalize us 5 = u5 at hA ⊢
      generalize us 6 = u6 at hA ⊢
      generalize us 7 = u7 at hA ⊢
      generalize us 8 = u8 at hA ⊢
      generalize us 9 = u9 at hA ⊢
      clear us
      obtain ⟨g9, rfl, Y9⟩ : PrB 9 u9 w' := hA 9 (by omega) (by decide)
      obtain rfl : u8 = .int .i64 0 := hA 8 (by omega) (by decide)
      have Y9' := Lib.hid Y9
      have hB3 := Lib.hid (below_then hB2.out hB9 hB2.out.size)
      have hblk3 := Lib.hid ((hB9.block b2 hb2lt).trans hblk2'.out)
      have hL3 := Lib.hid (hL2'.out.kept hB9)
      clear hA hB9 Y9
      simp only [List.drop_succ_cons, List.drop_zero]
      go_simp
      rename World => W3
      have hb3lt : b2 < W3.heap.size := (Array.getElem?_eq_some_iff.1 hblk3.out).1
      have hY1 : Hid (∀ W, Below W3.heap.size W3 W → YBlk W g9 [1, 0, 0, 0]) := fun W hb => Y9'.out.kept hb
      go_upto_region 5 with fail
      obtain ⟨W4, hW4⟩ : ∃ W4, W4 = ((((W3.alloc (.cells #[.int .u8 0, .int .u8 1, .int .u8 0, .int .u8 0] 5)).alloc (.cells #[.int .u8 0, .int .u8 1, .int .u8 0, .int .u8 0] 5)).alloc (.cells #[.int .u8 0, .int .u8 1, .int .u8 0, .int .u8 0] 5)).alloc (.cells #[.slice (some ⟨W3.heap.size, 0, none⟩) 4 4, .slice (some ⟨W3.heap.size + 1, 0, none⟩) 4 4, .slice (some ⟨W3.heap.size + 1 + 1, 0, none⟩) 4 4] 53)).alloc (.cells #[.int .i64 4, .int .i64 (-1), .slice (some ⟨W3.heap.size + 1 + 1 + 1, 0, none⟩) 3 3] 73) := ⟨_, rfl⟩
      have E4 : Blks W4 [(W3.heap.size + 1 + 1 + 1 + 1, #[.int .i64 4, .int .i64 (-1), .slice (some ⟨W3.heap.size + 1 + 1 + 1, 0, none⟩) 3 3], 73), (W3.heap.size + 1 + 1 + 1, #[.slice (some ⟨W3.heap.size, 0, none⟩) 4 4, .slice (some ⟨W3.heap.size + 1, 0, none⟩) 4 4, .slice (some ⟨W3.heap.size + 1 + 1, 0, none⟩) 4 4], 53), (W3.heap.size + 1 + 1, #[.int .u8 0, .int .u8 1, .int .u8 0, .int .u8 0], 5), (W3.heap.size + 1, #[.int .u8 0, .int .u8 1, .int .u8 0, .int .u8 0], 5), (W3.heap.size, #[.int .u8 0, .int .u8 1, .int .u8 0, .int .u8 0], 5)] := by
        rw [hW4]
        exact ((((((Blks.nil W3).alloc rfl _ 5).alloc (n := W3.heap.size + 1) (by simp) _ 5).alloc (n := W3.heap.size + 1 + 1) (by simp) _ 5).alloc (n := W3.heap.size + 1 + 1 + 1) (by simp) _ 53).alloc (n := W3.heap.size + 1 + 1 + 1 + 1) (by simp) _ 73)
      have hb34 : Below W3.heap.size W3 W4 := by
        rw [hW4]
        exact ((((below_new _).alloc (by simp) _).alloc (by simp; omega) _).alloc (by simp; omega) _).alloc (by simp; omega) _
      have hz34 : W3.heap.size + 1 + 1 + 1 + 1 < W4.heap.size := by rw [hW4]; simp
      rw [← hW4]
      have hq : Hid (∀ g, g ∈ [W3.heap.size, W3.heap.size + 1, W3.heap.size + 1 + 1] → YBlk W4 g [0, 1, 0, 0]) := fun g hg => by
        simp at hg
        rcases hg with rfl | rfl | rfl
        · exact E4 (W3.heap.size, #[.int .u8 0, .int .u8 1, .int .u8 0, .int .u8 0], 5) (by simp)
        · exact E4 (W3.heap.size + 1, #[.int .u8 0, .int .u8 1, .int .u8 0, .int .u8 0], 5) (by simp)
        · exact E4 (W3.heap.size + 1 + 1, #[.int .u8 0, .int .u8 1, .int .u8 0, .int .u8 0], 5) (by simp)
      have hWL : Hid (HasL W4 (.slice (some ⟨W3.heap.size + 1 + 1 + 1, 0, none⟩) 3 3) C3) := by
        refine ⟨_, 3, rfl, by decide, fun i hi => ?_⟩
        have hi3 : i < 3 := hi
        match i, hi3 with
        | 0, _ => exact ⟨_, 0, _, rfl, E4.cell (b := W3.heap.size + 1 + 1 + 1) (j := 0 + 0) (cs := #[.slice (some ⟨W3.heap.size, 0, none⟩) 4 4, .slice (some ⟨W3.heap.size + 1, 0, none⟩) 4 4, .slice (some ⟨W3.heap.size + 1 + 1, 0, none⟩) 4 4]) (T := 53) (by simp) rfl, (hq.out _ (by simp)).has⟩
        | 1, _ => exact ⟨_, 0, _, rfl, E4.cell (b := W3.heap.size + 1 + 1 + 1) (j := 0 + 1) (cs := #[.slice (some ⟨W3.heap.size, 0, none⟩) 4 4, .slice (some ⟨W3.heap.size + 1, 0, none⟩) 4 4, .slice (some ⟨W3.heap.size + 1 + 1, 0, none⟩) 4 4]) (T := 53) (by simp) rfl, (hq.out _ (by simp)).has⟩
        | 2, _ => exact ⟨_, 0, _, rfl, E4.cell (b := W3.heap.size + 1 + 1 + 1) (j := 0 + 2) (cs := #[.slice (some ⟨W3.heap.size, 0, none⟩) 4 4, .slice (some ⟨W3.heap.size + 1, 0, none⟩) 4 4, .slice (some ⟨W3.heap.size + 1 + 1, 0, none⟩) 4 4]) (T := 53) (by simp) rfl, (hq.out _ (by simp)).has⟩
      have hL4 := Lib.hid (hL3.out.kept hb34)
      have hblk4 : W4.heap[b2]? = some (.cells #[.int .i64 4, .int .i64 (-1), .slice x 3 c] 73 (0, 0)) := (hb34.block b2 hb3lt).trans hblk3.out
      have a0 : W4.cell? ⟨b2, 0, none⟩ = some (.int .i64 4) := by rw [cell_of_row W4 b2 0 _ 73 (0, 0) hblk4]; rfl
      have a1 : W4.cell? ⟨b2, 1, none⟩ = some (.int .i64 (-1)) := by rw [cell_of_row W4 b2 1 _ 73 (0, 0) hblk4]; rfl
      have a2 : W4.cell? ⟨b2, 2, none⟩ = some (.slice x 3 c) := by rw [cell_of_row W4 b2 2 _ 73 (0, 0) hblk4]; rfl
      have d0 : W4.cell? ⟨W3.heap.size + 1 + 1 + 1 + 1, 0, none⟩ = some (.int .i64 4) := E4.cell (cs := #[.int .i64 4, .int .i64 (-1), .slice (some ⟨W3.heap.size + 1 + 1 + 1, 0, none⟩) 3 3]) (T := 73) (by simp) rfl
      have d1 : W4.cell? ⟨W3.heap.size + 1 + 1 + 1 + 1, 1, none⟩ = some (.int .i64 (-1)) := E4.cell (cs := #[.int .i64 4, .int .i64 (-1), .slice (some ⟨W3.heap.size + 1 + 1 + 1, 0, none⟩) 3 3]) (T := 73) (by simp) rfl
      have d2 : W4.cell? ⟨W3.heap.size + 1 + 1 + 1 + 1, 2, none⟩ = some (.slice (some ⟨W3.heap.size + 1 + 1 + 1, 0, none⟩) 3 3) := E4.cell (cs := #[.int .i64 4, .int .i64 (-1), .slice (some ⟨W3.heap.size + 1 + 1 + 1, 0, none⟩) 3 3]) (T := 73) (by simp) rfl
      have hB4 := Lib.hid (below_then hB3.out hb34 hB3.out.size)
      have KS := Lib.hid (same32 (n := 4) (at' := -1) (w := W4) (R := C3) (by decide) hL4.out hWL.out C3_pos (by decide))
      have Y4 := Lib.hid (hY1.out W4 hb34)
      clear hW4 E4 hb34 hblk4
      go_wp2_with fail
      refine (KS.out).mono ?_
      rintro e w5 ⟨rfl, hb⟩
      have hB5 := Lib.hid (below_then hB4.out hb hB4.out.size)
      have Y5 := Lib.hid (Y4.out.kept hb)
      clear hb a0 a1 a2 d0 d1 d2
      have hcv1 : Hid ((convert 53 9 (.slice (some ⟨g9, 0, none⟩) 4 4)).run Try.prog w5 = .ok (strv [1, 0, 0, 0]) w5) := conv_str (Y5.out.has (cap := 4)) (by decide) (by decide)
      have Y6 : YBlk (w5.alloc (.cells #[.int .u8 1, .int .u8 0, .int .u8 0, .int .u8 0] 5)) w5.heap.size [1, 0, 0, 0] := YBlk.new w5 _ _ rfl
      have hcv2 : Hid ((convert 53 9 (.slice (some ⟨w5.heap.size, 0, none⟩) 4 4)).run Try.prog (w5.alloc (.cells #[.int .u8 1, .int .u8 0, .int .u8 0, .int .u8 0] 5)) = .ok (strv [1, 0, 0, 0]) (w5.alloc (.cells #[.int .u8 1, .int .u8 0, .int .u8 0, .int .u8 0] 5))) := conv_str (Y6.has (cap := 4)) (by decide) (by decide)
      have hB6 : Hid (Below w.heap.size w (w5.alloc (.cells #[.int .u8 1, .int .u8 0, .int .u8 0, .int .u8 0] 5))) := hB5.out.alloc hB5.out.size _
      clear Y6
      go_wp2_with (first | rw [hcv1.out] | rw [hcv2.out] | fail)
      simp only [strv_guard, strv_eq, Result.andThen]
      go_wp2_with fail
      refine bodyPost_ret (v := .bool true) ?_ rfl ⟨rfl, hB6.out⟩
      simp only [results, Try.f31, Array.toList]
      go_simp
end Go.Proofs.Ytigghbehnnghnaa
