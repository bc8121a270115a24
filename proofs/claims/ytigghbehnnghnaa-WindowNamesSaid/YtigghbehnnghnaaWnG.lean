import Derived.Test.YtigghbehnnghnaaWnF
namespace Go.Proofs.Ytigghbehnnghnaa
attribute [local go_sem] RegInv.putAll
open Go.RowKit Go.RowBits
set_option linter.unusedSimpArgs false
set_option linter.unusedVariables false

/-! ### later -/
def lineAt (nx : Nat → List Nat → Nat) (h k : Int) (n : Nat) (rows : List (List Nat)) (q : Nat) : List Nat := winG nx h k n (fun y => rowZ n rows ((q : Int) - 2 + (y : Int)))
def stepRows (nx : Nat → List Nat → Nat) (h k : Int) (n : Nat) (rows : List (List Nat)) : List (List Nat) := (List.range (rows.length + 2)).map (lineAt nx h k n rows)
theorem stepRows_len (nx : Nat → List Nat → Nat) (h k : Int) (n : Nat) (rows : List (List Nat)) : (stepRows nx h k n rows).length = rows.length + 2 := by unfold stepRows; simp
theorem stepRows_get (nx : Nat → List Nat → Nat) (h k : Int) (n : Nat) (rows : List (List Nat)) {q : Nat} (hq : q < rows.length + 2) : (stepRows nx h k n rows).getD q [] = lineAt nx h k n rows q := by unfold stepRows; simp [hq]
def LtRel (b9 : Nat) (W0 : World) (n : Nat) (at1 : Int) (ln : Nat → List Nat) (m : Nat) (i : Value) (wx : World) : Prop :=
  ∃ (q : Nat) (rv : Value) (gs : Nat → Nat), q ≤ m ∧ i = .int .i64 ((q : Int) - 1) ∧ Below b9 W0 wx ∧ wx.heap[b9]? = some (.cells #[.int .i64 (n : Int), .int .i64 at1, rv] 73 (0, 0)) ∧
    wx.ownsRow (b9 + 1) 53 1 rv q ((List.range q).map fun j => .slice (some ⟨gs j, 0, none⟩) n n) ∧ ∀ j, j < q → b9 + 1 ≤ gs j ∧ YBlk wx (gs j) (ln j)
def LaterPost (nx : Nat → List Nat → Nat) (h k : Int) (n : Nat) (at' : Int) (rows : List (List Nat)) (w : World) (e : Ending) (w' : World) : Prop :=
  ∃ kk m v', Tr (stepRows nx h k n rows) kk m ∧ e = .returned (bandV (n : Int) (if m = 0 then 0 else at' - 1 + (kk : Int)) v') ∧ HasO w.heap.size w' v' (cut (stepRows nx h k n rows) kk m) ∧ Below w.heap.size w w'
/-- What the region's first operations come to. -/
def PrL (r : RV) (k : Int) (n b2 b5 b9 q : Nat) (rv : Value) (rows : List (List Nat)) (ln : List Nat) (N : Nat) (i : Nat) (v : Value) (w' : World) : Prop :=
  match i with
  | 0 => v = .pointer (some ⟨b9, 2, none⟩)
  | 1 => v = rv
  | 2 => v = ruleV r
  | 3 => v = topoV k (n : Int) 0
  | 4 | 8 | 11 => v = .func (.func 86) #[] #[.pointer (some ⟨b2, 0, none⟩), .pointer (some ⟨b5, 0, none⟩)]
  | 5 | 9 | 12 => v = .int .i64 ((q : Int) - 1)
  | 6 => v = .int .i64 ((q : Int) - 1 - 1)
  | 13 => v = .int .i64 ((q : Int))
  | 7 => ∃ a c, v = .slice a n c ∧ HasY w' (.slice a n c) (rowZ n rows ((q : Int) - 1 - 1))
  | 10 => ∃ a c, v = .slice a n c ∧ HasY w' (.slice a n c) (rowZ n rows ((q : Int) - 1))
  | 14 => ∃ a c, v = .slice a n c ∧ HasY w' (.slice a n c) (rowZ n rows ((q : Int)))
  | 15 => ∃ a0 c0 a1 c1 a2 c2, v = .agg #[.slice a0 n c0, .slice a1 n c1, .slice a2 n c2] ∧ HasY w' (.slice a0 n c0) (rowZ n rows ((q : Int) - 1 - 1)) ∧ HasY w' (.slice a1 n c1) (rowZ n rows ((q : Int) - 1)) ∧ HasY w' (.slice a2 n c2) (rowZ n rows ((q : Int)))
  | 16 => ∃ g, v = .slice (some ⟨g, 0, none⟩) n n ∧ N ≤ g ∧ YBlk w' g ln
  | 17 => ∃ b g, v = .slice (some ⟨b, 0, none⟩) 1 1 ∧ w'.cell? ⟨b, 0, none⟩ = some (.slice (some ⟨g, 0, none⟩) n n) ∧ N ≤ b ∧ N ≤ g ∧ YBlk w' g ln
  | _ => True
theorem PrL.mono {r : RV} {k : Int} {n b2 b5 b9 q : Nat} {rv : Value} {rows : List (List Nat)} {ln : List Nat} {N : Nat} (i : Nat) (v : Value) (w1 w2 : World) (h : PrL r k n b2 b5 b9 q rv rows ln N i v w1) (hb : Below w1.heap.size w1 w2) : PrL r k n b2 b5 b9 q rv rows ln N i v w2 := by
  match i, h with
  | 0, h | 1, h | 2, h | 3, h | 4, h | 8, h | 11, h | 5, h | 9, h | 12, h | 6, h | 13, h => exact h
  | 7, ⟨a, c, e, hy⟩ => exact ⟨a, c, e, hy.kept hb⟩
  | 10, ⟨a, c, e, hy⟩ => exact ⟨a, c, e, hy.kept hb⟩
  | 14, ⟨a, c, e, hy⟩ => exact ⟨a, c, e, hy.kept hb⟩
  | 15, ⟨a0, c0, a1, c1, a2, c2, e, y0, y1, y2⟩ => exact ⟨a0, c0, a1, c1, a2, c2, e, y0.kept hb, y1.kept hb, y2.kept hb⟩
  | 16, ⟨g, e, hg, hY⟩ => exact ⟨g, e, hg, hY.kept hb⟩
  | 17, ⟨b, g, e, hc, hN, hg, hY⟩ => exact ⟨b, g, e, cell_kept hb hc, hN, hg, hY.kept hb⟩
  | (_ + 18), _ => exact trivial
set_option maxRecDepth 20000 in
set_option maxHeartbeats 4000000 in
theorem later63 {W0 : World} {r : RV} {ns : Nat} {h : Int} {nx : Nat → List Nat → Nat} {k : Int} {n : Nat} {w : World} {at' : Int} {v : Value} {rows : List (List Nat)} (S : StripG W0 r ns h nx k (n : Int)) (hw0 : Below W0.heap.size W0 w) (hr : (rows.length + 2) * n ≤ 1000000000000) (hr0 : 0 < rows.length) (hat : -2000000000000 ≤ at' ∧ at' ≤ 2000000000000) (hv : HasL w v rows) (hl : ∀ i, i < rows.length → (rows.getD i []).length = n) (h2 : ∀ i j, i < rows.length → (rows.getD i []).getD j 0 < ns) :
    Calls Try.prog 63 #[ruleV r, topoV k (n : Int) 0, bandV (n : Int) at' v] w (LaterPost nx h k n at' rows w) := by
  have H0 := Lib.hid hw0
  have n1 : 1 ≤ n := by have := S.hW; omega
  have n2 : n ≤ 65536 := by have := S.hW; omega
  have hrl : rows.length + 2 ≤ 1000000000000 := Nat.le_trans (Nat.le_mul_of_pos_right _ (by omega)) hr
  have hmk := fun m => run_make_row' (P := Try.prog) 53 5 (.int .u8 0) 1 Try.underlying53 info5' rfl .i64 .i64 m
  have hmkn : ∀ W, (Instr.makeSlice 53 (.int .i64 (n : Int)) (.int .i64 (n : Int))).run Try.prog W = .ok (.slice (some ⟨W.heap.size, 0, none⟩) n n) (W.alloc (.cells (madeCells #[.int .u8 0] n) 5)) := fun W => hmk n (by omega) (by omega) W
  have hv' := Lib.hid hv
  have hshape : ∃ ad cap, v = .slice ad rows.length cap := by obtain ⟨ad, cap, e, _⟩ := hv; exact ⟨ad, cap, e⟩
  obtain ⟨ad, cap, rfl⟩ := hshape
  have S' := Lib.hid S
  have hr' := Lib.hid hr
  have hl' := Lib.hid hl
  have h2' := Lib.hid h2
  clear hv hmk S hw0 hr hl h2
  go_enter Try.func63, Try.ntmps63
  have hz0 : ((rows.length : Int) == 0) = false := beq_eq_false_iff_ne.2 (by omega)
  go_wp2_with fail
  have E7 : Blks _ _ := ((((((((Blks.nil w).alloc rfl (ruleC r) 46).alloc (n := w.heap.size + 1) (by simp) #[.int .u8 k, .int .i64 (n : Int), .int .i64 0, .int .u8 0, .int .i64 0] 49).alloc (n := w.heap.size + 1 + 1) (by simp) #[.int .i64 (n : Int), .int .i64 at', .slice ad rows.length cap] 73).alloc (n := w.heap.size + 1 + 1 + 1) (by simp) #[.int .i64 0, .int .i64 0, .slice none 0 0] 73).alloc (n := w.heap.size + 1 + 1 + 1 + 1) (by simp) (madeCells #[.int .u8 0] n) 5).alloc (n := w.heap.size + 1 + 1 + 1 + 1 + 1) (by simp) #[.slice (some ⟨w.heap.size + 1 + 1 + 1 + 1, 0, none⟩) n n] 53).alloc (n := w.heap.size + 1 + 1 + 1 + 1 + 1 + 1) (by simp) #[.int .i64 (n : Int), .int .i64 (at' - 1), .slice none 0 0] 73)
  have hB7 : Below w.heap.size w _ := (((((((below_new (w := w) (.cells (ruleC r) 46)).alloc (by simp) (.cells #[.int .u8 k, .int .i64 (n : Int), .int .i64 0, .int .u8 0, .int .i64 0] 49)).alloc (by simp; omega) (.cells #[.int .i64 (n : Int), .int .i64 at', .slice ad rows.length cap] 73)).alloc (by simp; omega) (.cells #[.int .i64 0, .int .i64 0, .slice none 0 0] 73)).alloc (by simp; omega) (.cells (madeCells #[.int .u8 0] n) 5)).alloc (by simp; omega) (.cells #[.slice (some ⟨w.heap.size + 1 + 1 + 1 + 1, 0, none⟩) n n] 53)).alloc (by simp; omega) (.cells #[.int .i64 (n : Int), .int .i64 (at' - 1), .slice none 0 0] 73))
  obtain ⟨W7, hW7⟩ : ∃ W7, W7 = ((((((w.alloc (.cells (ruleC r) 46)).alloc (.cells #[.int .u8 k, .int .i64 (n : Int), .int .i64 0, .int .u8 0, .int .i64 0] 49)).alloc (.cells #[.int .i64 (n : Int), .int .i64 at', .slice ad rows.length cap] 73)).alloc (.cells #[.int .i64 0, .int .i64 0, .slice none 0 0] 73)).alloc (.cells (madeCells #[.int .u8 0] n) 5)).alloc (.cells #[.slice (some ⟨w.heap.size + 1 + 1 + 1 + 1, 0, none⟩) n n] 53)).alloc (.cells #[.int .i64 (n : Int), .int .i64 (at' - 1), .slice none 0 0] 73) := ⟨_, rfl⟩
  have hz7 : W7.heap.size = w.heap.size + 1 + 1 + 1 + 1 + 1 + 1 + 1 := by rw [hW7]; simp
  rw [← hW7] at E7 hB7 ⊢
  have E7' := Lib.hid E7
  have hB7' := Lib.hid hB7
  clear E7 hB7 hW7
  obtain ⟨b0, hb0⟩ : ∃ b0, b0 = w.heap.size := ⟨_, rfl⟩
  obtain ⟨b1, hb1⟩ : ∃ b1, b1 = b0 + 1 := ⟨_, rfl⟩
  obtain ⟨b2, hb2⟩ : ∃ b2, b2 = b1 + 1 := ⟨_, rfl⟩
  obtain ⟨b3, hb3⟩ : ∃ b3, b3 = b2 + 1 := ⟨_, rfl⟩
  obtain ⟨b4, hb4⟩ : ∃ b4, b4 = b3 + 1 := ⟨_, rfl⟩
  obtain ⟨b5, hb5⟩ : ∃ b5, b5 = b4 + 1 := ⟨_, rfl⟩
  obtain ⟨b9, hb9⟩ : ∃ b9, b9 = b5 + 1 := ⟨_, rfl⟩
  rw [← hb0, ← hb1, ← hb2, ← hb3, ← hb4, ← hb5, ← hb9] at E7' hz7 ⊢
  have hbs : b0 < b1 ∧ b1 < b2 ∧ b2 < b3 ∧ b3 < b4 ∧ b4 < b5 ∧ b5 < b9 := by omega
  have hb0' := Lib.hid hb0
  clear hb0 hb1 hb2 hb3 hb4 hb5 hb9
  obtain ⟨x1, x2, x3, x4, x5, x6⟩ := hbs
  have hY4 : Hid (YBlk W7 b4 (List.replicate n 0)) := (E7'.out (b4, madeCells #[.int .u8 0] n, 5) (by simp)).trans (by rw [made_bytes n])
  have hz7' : b9 < W7.heap.size := by omega
  clear hz7
  go_loopw [10] (fun i wx => LtRel b9 W7 n (at' - 1) (lineAt nx h k n rows) (rows.length + 2) i wx) (fun i _ => (rows.length + 2) - (intOf i + 1).toNat)
  case atStart => exact ⟨0, .slice none 0 0, fun _ => 0, by omega, by go_num, Below.refl _ _, E7'.out (b9, #[.int .i64 (n : Int), .int .i64 (at' - 1), .slice none 0 0], 73) (by simp), World.ownsRow_nil _ _ _ _, fun j hj => by omega⟩
  case round =>
    obtain ⟨q, rv, gs, hq, rfl, hB, hblk, hown, hgs⟩ := hrel
    obtain ⟨adr, capr, rfl⟩ := own_shape hown
    have hB' := Lib.hid hB
    have hblk' := Lib.hid hblk
    have hown' := Lib.hid hown
    have hgs' := Lib.hid hgs
    have E5 : Hid (Blks wr [(b5, #[.slice (some ⟨b4, 0, none⟩) n n], 53), (b4, madeCells #[.int .u8 0] n, 5), (b3, #[.int .i64 0, .int .i64 0, .slice none 0 0], 73), (b2, #[.int .i64 (n : Int), .int .i64 at', .slice ad rows.length cap], 73), (b1, #[.int .u8 k, .int .i64 (n : Int), .int .i64 0, .int .u8 0, .int .i64 0], 49), (b0, ruleC r, 46)]) := fun x hx => (hB.block x.1 (by simp at hx; rcases hx with rfl | rfl | rfl | rfl | rfl | rfl <;> simp <;> omega)).trans (E7'.out x (by simp at hx ⊢; rcases hx with rfl | rfl | rfl | rfl | rfl | rfl <;> simp))
    have hb9w : b9 < wr.heap.size := (Array.getElem?_eq_some_iff.1 hblk).1
    have hBwr : Hid (Below w.heap.size w wr) := hB7'.out.trans (hB.mono (by have := hb0'.out; omega))
    have hZr : Hid (YBlk wr b4 (List.replicate n 0)) := hY4.out.keptB hB (by omega)
    clear hB hblk hown hgs
    have c2 : wr.cell? ⟨b2, 2, none⟩ = some (.slice ad rows.length cap) := E5.out.cell (cs := #[.int .i64 (n : Int), .int .i64 at', .slice ad rows.length cap]) (T := 73) (by simp) rfl
    by_cases hlt : q < rows.length + 2
    · have hq1 : (q : Int) - 1 ≤ (rows.length : Int) := by omega
      go_upto_region 9 with fail
      refine RegInv.wp_region_inv 18 [33, 34, 35, 36, 37, 38, 39, 40, 41, 42, 43, 44, 45, 46, 47, 48, 49, 50] (RegInv.ILv (PrL r k n b2 b5 b9 q (.slice adr q capr) rows (lineAt nx h k n rows q) wr.heap.size) 18 wr) (by kernel_rfl) (by kernel_rfl) ?_ ?_ ?_
      · exact RegInv.ILv.start _ 18 (by simp) (Below.refl _ _).drew
      · intro i hi L vs w' hLi hd hI K hK
        obtain ⟨hlen, hB9, hA0⟩ := hI
        obtain ⟨us, rfl⟩ := RegInv.list_fn hlen
        have hA : ∀ i, i < 18 → L i = true → (PrL r k n b2 b5 b9 q (.slice adr q capr) rows (lineAt nx h k n rows q) wr.heap.size) i ([us 0, us 1, us 2, us 3, us 4, us 5, us 6, us 7, us 8, us 9, us 10, us 11, us 12, us 13, us 14, us 15, us 16, us 17].getD i undef) w' := hA0
        change wpOp _ _ _ _ _ (RegInv.putAll _ _ [us 0, us 1, us 2, us 3, us 4, us 5, us 6, us 7, us 8, us 9, us 10, us 11, us 12, us 13, us 14, us 15, us 16, us 17]) _
        clear hlen hA0
        generalize us 0 = u0 at hA ⊢
        generalize us 1 = u1 at hA ⊢
        generalize us 2 = u2 at hA ⊢
        generalize us 3 = u3 at hA ⊢
        generalize us 4 = u4 at hA ⊢
        generalize us 5 = u5 at hA ⊢
        generalize us 6 = u6 at hA ⊢
        generalize us 7 = u7 at hA ⊢
        generalize us 8 = u8 at hA ⊢
        generalize us 9 = u9 at hA ⊢
        generalize us 10 = u10 at hA ⊢
        generalize us 11 = u11 at hA ⊢
        generalize us 12 = u12 at hA ⊢
        generalize us 13 = u13 at hA ⊢
        generalize us 14 = u14 at hA ⊢
        generalize us 15 = u15 at hA ⊢
        generalize us 16 = u16 at hA ⊢
        generalize us 17 = u17 at hA ⊢
        clear us
        have hEw := Lib.hid (E5.out.kept hB9)
        have hc9 : Hid (w'.cell? ⟨b9, 2, none⟩ = some (.slice adr q capr)) := cell_kept hB9 (by rw [cell_of_row wr b9 2 _ 73 (0, 0) hblk'.out]; rfl)
        have hcb : Hid (w'.cell? ⟨b2, 2, none⟩ = some (.slice ad rows.length cap)) := cell_kept hB9 c2
        have hcn : Hid (w'.cell? ⟨b5, 0, none⟩ = some (.slice (some ⟨b4, 0, none⟩) n n)) := hEw.out.cell (cs := #[.slice (some ⟨b4, 0, none⟩) n n]) (T := 53) (by simp) rfl
        have hLw : Hid (HasL w' (.slice ad rows.length cap) rows) := (hv'.out.kept hBwr.out).kept hB9
        have hZw : Hid (HasY w' (.slice (some ⟨b4, 0, none⟩) n n) (List.replicate n 0)) := has_of (hZr.out.kept hB9) (by simp)
        have hw' : Hid (Below W0.heap.size W0 w') := below_then H0.out (below_then hBwr.out hB9 hBwr.out.size) H0.out.size
        match i, hi with
        | 0, _ =>
          refine wpOp_step rfl (fun K' hK' => ?_)
          go_simp
          have hI : RegInv.ILv (PrL r k n b2 b5 b9 q (.slice adr q capr) rows (lineAt nx h k n rows q) wr.heap.size) 18 wr (fun j => decide (j = 0) || L j) [(.pointer (some ⟨b9, 2, none⟩)), u1, u2, u3, u4, u5, u6, u7, u8, u9, u10, u11, u12, u13, u14, u15, u16, u17] w' := RegInv.ILv.step (Pr := (PrL r k n b2 b5 b9 q (.slice adr q capr) rows (lineAt nx h k n rows q) wr.heap.size)) (n := 18) (vs := [u0, u1, u2, u3, u4, u5, u6, u7, u8, u9, u10, u11, u12, u13, u14, u15, u16, u17]) PrL.mono rfl hB9 hA 0 (.pointer (some ⟨b9, 2, none⟩)) (Below.refl _ _) (rfl)
          have hk := hK' _ _ (hK _ _ hI)
          revert hk
          go_simp
        | 1, _ =>
          have hd' : ([0] : List Nat).all L = true := hd
          simp only [List.all_cons, List.all_nil, Bool.and_true, Bool.and_eq_true] at hd'
          have hp0 : PrL r k n b2 b5 b9 q (.slice adr q capr) rows (lineAt nx h k n rows q) wr.heap.size 0 u0 w' := hA 0 (by omega) (hd')
          obtain rfl : u0 = .pointer (some ⟨b9, 2, none⟩) := hp0
          have c9 := hc9.out
          refine wpOp_step rfl (fun K' hK' => ?_)
          go_simp
          have hI : RegInv.ILv (PrL r k n b2 b5 b9 q (.slice adr q capr) rows (lineAt nx h k n rows q) wr.heap.size) 18 wr (fun j => decide (j = 1) || L j) [(.pointer (some ⟨b9, 2, none⟩)), (.slice adr q capr), u2, u3, u4, u5, u6, u7, u8, u9, u10, u11, u12, u13, u14, u15, u16, u17] w' := RegInv.ILv.step (Pr := (PrL r k n b2 b5 b9 q (.slice adr q capr) rows (lineAt nx h k n rows q) wr.heap.size)) (n := 18) (vs := [(.pointer (some ⟨b9, 2, none⟩)), u1, u2, u3, u4, u5, u6, u7, u8, u9, u10, u11, u12, u13, u14, u15, u16, u17]) PrL.mono rfl hB9 hA 1 (.slice adr q capr) (Below.refl _ _) (rfl)
          have hk := hK' _ _ (hK _ _ hI)
          revert hk
          go_simp
        | 2, _ =>
          have r0 : w'.cell? ⟨b0, 0, none⟩ = some (.int .u8 r.kind) := hEw.out.cell (cs := ruleC r) (T := 46) (by simp) rfl
          have r1 : w'.cell? ⟨b0, 1, none⟩ = some (.int .u8 r.hood) := hEw.out.cell (cs := ruleC r) (T := 46) (by simp) rfl
          have r2 : w'.cell? ⟨b0, 2, none⟩ = some (.int .u16 r.born) := hEw.out.cell (cs := ruleC r) (T := 46) (by simp) rfl
          have r3 : w'.cell? ⟨b0, 3, none⟩ = some (.int .u16 r.stay) := hEw.out.cell (cs := ruleC r) (T := 46) (by simp) rfl
          have r4 : w'.cell? ⟨b0, 4, none⟩ = some (.int .i64 r.states) := hEw.out.cell (cs := ruleC r) (T := 46) (by simp) rfl
          have r5 : w'.cell? ⟨b0, 5, none⟩ = some (.string r.name) := hEw.out.cell (cs := ruleC r) (T := 46) (by simp) rfl
          have r6 : w'.cell? ⟨b0, 6, none⟩ = some (.int .i64 r.tst) := hEw.out.cell (cs := ruleC r) (T := 46) (by simp) rfl
          have r7 : w'.cell? ⟨b0, 7, none⟩ = some (.int .u8 r.tho) := hEw.out.cell (cs := ruleC r) (T := 46) (by simp) rfl
          have r8 : w'.cell? ⟨b0, 8, none⟩ = some (.int .u8 r.tsy) := hEw.out.cell (cs := ruleC r) (T := 46) (by simp) rfl
          have r9 : w'.cell? ⟨b0, 9, none⟩ = some (.slice r.va r.vn r.vc) := hEw.out.cell (cs := ruleC r) (T := 46) (by simp) rfl
          have r10 : w'.cell? ⟨b0, 10, none⟩ = some (.slice r.ra r.rn r.rc) := hEw.out.cell (cs := ruleC r) (T := 46) (by simp) rfl
          refine wpOp_step rfl (fun K' hK' => ?_)
          go_simp
          have hI : RegInv.ILv (PrL r k n b2 b5 b9 q (.slice adr q capr) rows (lineAt nx h k n rows q) wr.heap.size) 18 wr (fun j => decide (j = 2) || L j) [u0, u1, (ruleV r), u3, u4, u5, u6, u7, u8, u9, u10, u11, u12, u13, u14, u15, u16, u17] w' := RegInv.ILv.step (Pr := (PrL r k n b2 b5 b9 q (.slice adr q capr) rows (lineAt nx h k n rows q) wr.heap.size)) (n := 18) (vs := [u0, u1, u2, u3, u4, u5, u6, u7, u8, u9, u10, u11, u12, u13, u14, u15, u16, u17]) PrL.mono rfl hB9 hA 2 (ruleV r) (Below.refl _ _) (rfl)
          have hk := hK' _ _ (hK _ _ hI)
          revert hk
          go_simp
        | 3, _ =>
          have t0 : w'.cell? ⟨b1, 0, none⟩ = some (.int .u8 k) := hEw.out.cell (cs := #[.int .u8 k, .int .i64 (n : Int), .int .i64 0, .int .u8 0, .int .i64 0]) (T := 49) (by simp) rfl
          have t1 : w'.cell? ⟨b1, 1, none⟩ = some (.int .i64 (n : Int)) := hEw.out.cell (cs := #[.int .u8 k, .int .i64 (n : Int), .int .i64 0, .int .u8 0, .int .i64 0]) (T := 49) (by simp) rfl
          have t2 : w'.cell? ⟨b1, 2, none⟩ = some (.int .i64 0) := hEw.out.cell (cs := #[.int .u8 k, .int .i64 (n : Int), .int .i64 0, .int .u8 0, .int .i64 0]) (T := 49) (by simp) rfl
          have t3 : w'.cell? ⟨b1, 3, none⟩ = some (.int .u8 0) := hEw.out.cell (cs := #[.int .u8 k, .int .i64 (n : Int), .int .i64 0, .int .u8 0, .int .i64 0]) (T := 49) (by simp) rfl
          have t4 : w'.cell? ⟨b1, 4, none⟩ = some (.int .i64 0) := hEw.out.cell (cs := #[.int .u8 k, .int .i64 (n : Int), .int .i64 0, .int .u8 0, .int .i64 0]) (T := 49) (by simp) rfl
          refine wpOp_step rfl (fun K' hK' => ?_)
          go_simp
          have hI : RegInv.ILv (PrL r k n b2 b5 b9 q (.slice adr q capr) rows (lineAt nx h k n rows q) wr.heap.size) 18 wr (fun j => decide (j = 3) || L j) [u0, u1, u2, (topoV k (n : Int) 0), u4, u5, u6, u7, u8, u9, u10, u11, u12, u13, u14, u15, u16, u17] w' := RegInv.ILv.step (Pr := (PrL r k n b2 b5 b9 q (.slice adr q capr) rows (lineAt nx h k n rows q) wr.heap.size)) (n := 18) (vs := [u0, u1, u2, u3, u4, u5, u6, u7, u8, u9, u10, u11, u12, u13, u14, u15, u16, u17]) PrL.mono rfl hB9 hA 3 (topoV k (n : Int) 0) (Below.refl _ _) (rfl)
          have hk := hK' _ _ (hK _ _ hI)
          revert hk
          go_simp
        | 4, _ =>
          refine wpOp_step rfl (fun K' hK' => ?_)
          go_simp
          have hI : RegInv.ILv (PrL r k n b2 b5 b9 q (.slice adr q capr) rows (lineAt nx h k n rows q) wr.heap.size) 18 wr (fun j => decide (j = 4) || L j) [u0, u1, u2, u3, (.func (.func 86) #[] #[.pointer (some ⟨b2, 0, none⟩), .pointer (some ⟨b5, 0, none⟩)]), u5, u6, u7, u8, u9, u10, u11, u12, u13, u14, u15, u16, u17] w' := RegInv.ILv.step (Pr := (PrL r k n b2 b5 b9 q (.slice adr q capr) rows (lineAt nx h k n rows q) wr.heap.size)) (n := 18) (vs := [u0, u1, u2, u3, u4, u5, u6, u7, u8, u9, u10, u11, u12, u13, u14, u15, u16, u17]) PrL.mono rfl hB9 hA 4 (.func (.func 86) #[] #[.pointer (some ⟨b2, 0, none⟩), .pointer (some ⟨b5, 0, none⟩)]) (Below.refl _ _) (rfl)
          have hk := hK' _ _ (hK _ _ hI)
          revert hk
          go_simp
        | 5, _ =>
          refine wpOp_step rfl (fun K' hK' => ?_)
          go_simp
          have hI : RegInv.ILv (PrL r k n b2 b5 b9 q (.slice adr q capr) rows (lineAt nx h k n rows q) wr.heap.size) 18 wr (fun j => decide (j = 5) || L j) [u0, u1, u2, u3, u4, (.int .i64 ((q : Int) - 1)), u6, u7, u8, u9, u10, u11, u12, u13, u14, u15, u16, u17] w' := RegInv.ILv.step (Pr := (PrL r k n b2 b5 b9 q (.slice adr q capr) rows (lineAt nx h k n rows q) wr.heap.size)) (n := 18) (vs := [u0, u1, u2, u3, u4, u5, u6, u7, u8, u9, u10, u11, u12, u13, u14, u15, u16, u17]) PrL.mono rfl hB9 hA 5 (.int .i64 ((q : Int) - 1)) (Below.refl _ _) (rfl)
          have hk := hK' _ _ (hK _ _ hI)
          revert hk
          go_simp
        | 6, _ =>
          have hd' : ([5] : List Nat).all L = true := hd
          simp only [List.all_cons, List.all_nil, Bool.and_true, Bool.and_eq_true] at hd'
          have hp5 : PrL r k n b2 b5 b9 q (.slice adr q capr) rows (lineAt nx h k n rows q) wr.heap.size 5 u5 w' := hA 5 (by omega) (hd')
          obtain rfl : u5 = .int .i64 ((q : Int) - 1) := hp5
          have hwr : IntKind.i64.wrap ((q : Int) - 1 - 1) = (q : Int) - 1 - 1 := IntWalk.i64_in _ (by omega)
          refine wpOp_step rfl (fun K' hK' => ?_)
          go_simp
          have hI : RegInv.ILv (PrL r k n b2 b5 b9 q (.slice adr q capr) rows (lineAt nx h k n rows q) wr.heap.size) 18 wr (fun j => decide (j = 6) || L j) [u0, u1, u2, u3, u4, (.int .i64 ((q : Int) - 1)), (.int .i64 ((q : Int) - 1 - 1)), u7, u8, u9, u10, u11, u12, u13, u14, u15, u16, u17] w' := RegInv.ILv.step (Pr := (PrL r k n b2 b5 b9 q (.slice adr q capr) rows (lineAt nx h k n rows q) wr.heap.size)) (n := 18) (vs := [u0, u1, u2, u3, u4, (.int .i64 ((q : Int) - 1)), u6, u7, u8, u9, u10, u11, u12, u13, u14, u15, u16, u17]) PrL.mono rfl hB9 hA 6 (.int .i64 ((q : Int) - 1 - 1)) (Below.refl _ _) (rfl)
          have hk := hK' _ _ (hK _ _ hI)
          revert hk
          go_simp
        | 7, _ =>
          have hd' : ([4, 6] : List Nat).all L = true := hd
          simp only [List.all_cons, List.all_nil, Bool.and_true, Bool.and_eq_true] at hd'
          have hp4 : PrL r k n b2 b5 b9 q (.slice adr q capr) rows (lineAt nx h k n rows q) wr.heap.size 4 u4 w' := hA 4 (by omega) (hd'.1)
          obtain rfl : u4 = .func (.func 86) #[] #[.pointer (some ⟨b2, 0, none⟩), .pointer (some ⟨b5, 0, none⟩)] := hp4
          have hp6 : PrL r k n b2 b5 b9 q (.slice adr q capr) rows (lineAt nx h k n rows q) wr.heap.size 6 u6 w' := hA 6 (by omega) (hd'.2)
          obtain rfl : u6 = .int .i64 ((q : Int) - 1 - 1) := hp6
          refine wpOp_step rfl (fun K' hK' => ?_)
          go_simp
          refine (later86 (n := n) (i := (q : Int) - 1 - 1) (by omega) hl'.out hcb.out hcn.out hLw.out hZw.out).mono ?_
          rintro e w6 ⟨⟨a, c, rfl, hy⟩, hw6⟩
          subst w6
          have hy' := Lib.hid hy
          clear hy
          have hI : RegInv.ILv (PrL r k n b2 b5 b9 q (.slice adr q capr) rows (lineAt nx h k n rows q) wr.heap.size) 18 wr (fun j => decide (j = 7) || L j) [u0, u1, u2, u3, (.func (.func 86) #[] #[.pointer (some ⟨b2, 0, none⟩), .pointer (some ⟨b5, 0, none⟩)]), u5, (.int .i64 ((q : Int) - 1 - 1)), (.slice a n c), u8, u9, u10, u11, u12, u13, u14, u15, u16, u17] w' := RegInv.ILv.step (Pr := (PrL r k n b2 b5 b9 q (.slice adr q capr) rows (lineAt nx h k n rows q) wr.heap.size)) (n := 18) (vs := [u0, u1, u2, u3, (.func (.func 86) #[] #[.pointer (some ⟨b2, 0, none⟩), .pointer (some ⟨b5, 0, none⟩)]), u5, (.int .i64 ((q : Int) - 1 - 1)), u7, u8, u9, u10, u11, u12, u13, u14, u15, u16, u17]) PrL.mono rfl hB9 hA 7 (.slice a n c) (Below.refl _ _) (⟨a, c, rfl, hy'.out⟩)
          have hk := hK' _ _ (hK _ _ hI)
          revert hk
          go_simp
        | 8, _ =>
          refine wpOp_step rfl (fun K' hK' => ?_)
          go_simp
          have hI : RegInv.ILv (PrL r k n b2 b5 b9 q (.slice adr q capr) rows (lineAt nx h k n rows q) wr.heap.size) 18 wr (fun j => decide (j = 8) || L j) [u0, u1, u2, u3, u4, u5, u6, u7, (.func (.func 86) #[] #[.pointer (some ⟨b2, 0, none⟩), .pointer (some ⟨b5, 0, none⟩)]), u9, u10, u11, u12, u13, u14, u15, u16, u17] w' := RegInv.ILv.step (Pr := (PrL r k n b2 b5 b9 q (.slice adr q capr) rows (lineAt nx h k n rows q) wr.heap.size)) (n := 18) (vs := [u0, u1, u2, u3, u4, u5, u6, u7, u8, u9, u10, u11, u12, u13, u14, u15, u16, u17]) PrL.mono rfl hB9 hA 8 (.func (.func 86) #[] #[.pointer (some ⟨b2, 0, none⟩), .pointer (some ⟨b5, 0, none⟩)]) (Below.refl _ _) (rfl)
          have hk := hK' _ _ (hK _ _ hI)
          revert hk
          go_simp
        | 9, _ =>
          refine wpOp_step rfl (fun K' hK' => ?_)
          go_simp
          have hI : RegInv.ILv (PrL r k n b2 b5 b9 q (.slice adr q capr) rows (lineAt nx h k n rows q) wr.heap.size) 18 wr (fun j => decide (j = 9) || L j) [u0, u1, u2, u3, u4, u5, u6, u7, u8, (.int .i64 ((q : Int) - 1)), u10, u11, u12, u13, u14, u15, u16, u17] w' := RegInv.ILv.step (Pr := (PrL r k n b2 b5 b9 q (.slice adr q capr) rows (lineAt nx h k n rows q) wr.heap.size)) (n := 18) (vs := [u0, u1, u2, u3, u4, u5, u6, u7, u8, u9, u10, u11, u12, u13, u14, u15, u16, u17]) PrL.mono rfl hB9 hA 9 (.int .i64 ((q : Int) - 1)) (Below.refl _ _) (rfl)
          have hk := hK' _ _ (hK _ _ hI)
          revert hk
          go_simp
        | 10, _ =>
          have hd' : ([8, 9, 7] : List Nat).all L = true := hd
          simp only [List.all_cons, List.all_nil, Bool.and_true, Bool.and_eq_true] at hd'
          have hp8 : PrL r k n b2 b5 b9 q (.slice adr q capr) rows (lineAt nx h k n rows q) wr.heap.size 8 u8 w' := hA 8 (by omega) (hd'.1)
          obtain rfl : u8 = .func (.func 86) #[] #[.pointer (some ⟨b2, 0, none⟩), .pointer (some ⟨b5, 0, none⟩)] := hp8
          have hp9 : PrL r k n b2 b5 b9 q (.slice adr q capr) rows (lineAt nx h k n rows q) wr.heap.size 9 u9 w' := hA 9 (by omega) (hd'.2.1)
          obtain rfl : u9 = .int .i64 ((q : Int) - 1) := hp9
          have hp7 : PrL r k n b2 b5 b9 q (.slice adr q capr) rows (lineAt nx h k n rows q) wr.heap.size 7 u7 w' := hA 7 (by omega) (hd'.2.2)
          obtain ⟨a7, c7, rfl, y7⟩ := hp7
          refine wpOp_step rfl (fun K' hK' => ?_)
          go_simp
          refine (later86 (n := n) (i := (q : Int) - 1) (by omega) hl'.out hcb.out hcn.out hLw.out hZw.out).mono ?_
          rintro e w6 ⟨⟨a, c, rfl, hy⟩, hw6⟩
          subst w6
          have hy' := Lib.hid hy
          clear hy
          have hI : RegInv.ILv (PrL r k n b2 b5 b9 q (.slice adr q capr) rows (lineAt nx h k n rows q) wr.heap.size) 18 wr (fun j => decide (j = 10) || L j) [u0, u1, u2, u3, u4, u5, u6, (.slice a7 n c7), (.func (.func 86) #[] #[.pointer (some ⟨b2, 0, none⟩), .pointer (some ⟨b5, 0, none⟩)]), (.int .i64 ((q : Int) - 1)), (.slice a n c), u11, u12, u13, u14, u15, u16, u17] w' := RegInv.ILv.step (Pr := (PrL r k n b2 b5 b9 q (.slice adr q capr) rows (lineAt nx h k n rows q) wr.heap.size)) (n := 18) (vs := [u0, u1, u2, u3, u4, u5, u6, (.slice a7 n c7), (.func (.func 86) #[] #[.pointer (some ⟨b2, 0, none⟩), .pointer (some ⟨b5, 0, none⟩)]), (.int .i64 ((q : Int) - 1)), u10, u11, u12, u13, u14, u15, u16, u17]) PrL.mono rfl hB9 hA 10 (.slice a n c) (Below.refl _ _) (⟨a, c, rfl, hy'.out⟩)
          have hk := hK' _ _ (hK _ _ hI)
          revert hk
          go_simp
        | 11, _ =>
          refine wpOp_step rfl (fun K' hK' => ?_)
          go_simp
          have hI : RegInv.ILv (PrL r k n b2 b5 b9 q (.slice adr q capr) rows (lineAt nx h k n rows q) wr.heap.size) 18 wr (fun j => decide (j = 11) || L j) [u0, u1, u2, u3, u4, u5, u6, u7, u8, u9, u10, (.func (.func 86) #[] #[.pointer (some ⟨b2, 0, none⟩), .pointer (some ⟨b5, 0, none⟩)]), u12, u13, u14, u15, u16, u17] w' := RegInv.ILv.step (Pr := (PrL r k n b2 b5 b9 q (.slice adr q capr) rows (lineAt nx h k n rows q) wr.heap.size)) (n := 18) (vs := [u0, u1, u2, u3, u4, u5, u6, u7, u8, u9, u10, u11, u12, u13, u14, u15, u16, u17]) PrL.mono rfl hB9 hA 11 (.func (.func 86) #[] #[.pointer (some ⟨b2, 0, none⟩), .pointer (some ⟨b5, 0, none⟩)]) (Below.refl _ _) (rfl)
          have hk := hK' _ _ (hK _ _ hI)
          revert hk
          go_simp
        | 12, _ =>
          refine wpOp_step rfl (fun K' hK' => ?_)
          go_simp
          have hI : RegInv.ILv (PrL r k n b2 b5 b9 q (.slice adr q capr) rows (lineAt nx h k n rows q) wr.heap.size) 18 wr (fun j => decide (j = 12) || L j) [u0, u1, u2, u3, u4, u5, u6, u7, u8, u9, u10, u11, (.int .i64 ((q : Int) - 1)), u13, u14, u15, u16, u17] w' := RegInv.ILv.step (Pr := (PrL r k n b2 b5 b9 q (.slice adr q capr) rows (lineAt nx h k n rows q) wr.heap.size)) (n := 18) (vs := [u0, u1, u2, u3, u4, u5, u6, u7, u8, u9, u10, u11, u12, u13, u14, u15, u16, u17]) PrL.mono rfl hB9 hA 12 (.int .i64 ((q : Int) - 1)) (Below.refl _ _) (rfl)
          have hk := hK' _ _ (hK _ _ hI)
          revert hk
          go_simp
        | 13, _ =>
          have hd' : ([12] : List Nat).all L = true := hd
          simp only [List.all_cons, List.all_nil, Bool.and_true, Bool.and_eq_true] at hd'
          have hp12 : PrL r k n b2 b5 b9 q (.slice adr q capr) rows (lineAt nx h k n rows q) wr.heap.size 12 u12 w' := hA 12 (by omega) (hd')
          obtain rfl : u12 = .int .i64 ((q : Int) - 1) := hp12
          have hwr : IntKind.i64.wrap (q : Int) = (q : Int) := IntWalk.i64_in _ (by omega)
          refine wpOp_step rfl (fun K' hK' => ?_)
          go_simp
          have hI : RegInv.ILv (PrL r k n b2 b5 b9 q (.slice adr q capr) rows (lineAt nx h k n rows q) wr.heap.size) 18 wr (fun j => decide (j = 13) || L j) [u0, u1, u2, u3, u4, u5, u6, u7, u8, u9, u10, u11, (.int .i64 ((q : Int) - 1)), (.int .i64 ((q : Int))), u14, u15, u16, u17] w' := RegInv.ILv.step (Pr := (PrL r k n b2 b5 b9 q (.slice adr q capr) rows (lineAt nx h k n rows q) wr.heap.size)) (n := 18) (vs := [u0, u1, u2, u3, u4, u5, u6, u7, u8, u9, u10, u11, (.int .i64 ((q : Int) - 1)), u13, u14, u15, u16, u17]) PrL.mono rfl hB9 hA 13 (.int .i64 ((q : Int))) (Below.refl _ _) (rfl)
          have hk := hK' _ _ (hK _ _ hI)
          revert hk
          go_simp
        | 14, _ =>
          have hd' : ([11, 13, 10] : List Nat).all L = true := hd
          simp only [List.all_cons, List.all_nil, Bool.and_true, Bool.and_eq_true] at hd'
          have hp11 : PrL r k n b2 b5 b9 q (.slice adr q capr) rows (lineAt nx h k n rows q) wr.heap.size 11 u11 w' := hA 11 (by omega) (hd'.1)
          obtain rfl : u11 = .func (.func 86) #[] #[.pointer (some ⟨b2, 0, none⟩), .pointer (some ⟨b5, 0, none⟩)] := hp11
          have hp13 : PrL r k n b2 b5 b9 q (.slice adr q capr) rows (lineAt nx h k n rows q) wr.heap.size 13 u13 w' := hA 13 (by omega) (hd'.2.1)
          obtain rfl : u13 = .int .i64 ((q : Int)) := hp13
          have hp10 : PrL r k n b2 b5 b9 q (.slice adr q capr) rows (lineAt nx h k n rows q) wr.heap.size 10 u10 w' := hA 10 (by omega) (hd'.2.2)
          obtain ⟨a10, c10, rfl, y10⟩ := hp10
          refine wpOp_step rfl (fun K' hK' => ?_)
          go_simp
          refine (later86 (n := n) (i := (q : Int)) (by omega) hl'.out hcb.out hcn.out hLw.out hZw.out).mono ?_
          rintro e w6 ⟨⟨a, c, rfl, hy⟩, hw6⟩
          subst w6
          have hy' := Lib.hid hy
          clear hy
          have hI : RegInv.ILv (PrL r k n b2 b5 b9 q (.slice adr q capr) rows (lineAt nx h k n rows q) wr.heap.size) 18 wr (fun j => decide (j = 14) || L j) [u0, u1, u2, u3, u4, u5, u6, u7, u8, u9, (.slice a10 n c10), (.func (.func 86) #[] #[.pointer (some ⟨b2, 0, none⟩), .pointer (some ⟨b5, 0, none⟩)]), u12, (.int .i64 ((q : Int))), (.slice a n c), u15, u16, u17] w' := RegInv.ILv.step (Pr := (PrL r k n b2 b5 b9 q (.slice adr q capr) rows (lineAt nx h k n rows q) wr.heap.size)) (n := 18) (vs := [u0, u1, u2, u3, u4, u5, u6, u7, u8, u9, (.slice a10 n c10), (.func (.func 86) #[] #[.pointer (some ⟨b2, 0, none⟩), .pointer (some ⟨b5, 0, none⟩)]), u12, (.int .i64 ((q : Int))), u14, u15, u16, u17]) PrL.mono rfl hB9 hA 14 (.slice a n c) (Below.refl _ _) (⟨a, c, rfl, hy'.out⟩)
          have hk := hK' _ _ (hK _ _ hI)
          revert hk
          go_simp
        | 15, _ =>
          have hd' : ([7, 10, 14] : List Nat).all L = true := hd
          simp only [List.all_cons, List.all_nil, Bool.and_true, Bool.and_eq_true] at hd'
          have hp7 : PrL r k n b2 b5 b9 q (.slice adr q capr) rows (lineAt nx h k n rows q) wr.heap.size 7 u7 w' := hA 7 (by omega) (hd'.1)
          obtain ⟨a7, c7, rfl, y7⟩ := hp7
          have hp10 : PrL r k n b2 b5 b9 q (.slice adr q capr) rows (lineAt nx h k n rows q) wr.heap.size 10 u10 w' := hA 10 (by omega) (hd'.2.1)
          obtain ⟨a10, c10, rfl, y10⟩ := hp10
          have hp14 : PrL r k n b2 b5 b9 q (.slice adr q capr) rows (lineAt nx h k n rows q) wr.heap.size 14 u14 w' := hA 14 (by omega) (hd'.2.2)
          obtain ⟨a14, c14, rfl, y14⟩ := hp14
          refine wpOp_step rfl (fun K' hK' => ?_)
          go_simp
          have hI : RegInv.ILv (PrL r k n b2 b5 b9 q (.slice adr q capr) rows (lineAt nx h k n rows q) wr.heap.size) 18 wr (fun j => decide (j = 15) || L j) [u0, u1, u2, u3, u4, u5, u6, (.slice a7 n c7), u8, u9, (.slice a10 n c10), u11, u12, u13, (.slice a14 n c14), (.agg #[.slice a7 n c7, .slice a10 n c10, .slice a14 n c14]), u16, u17] w' := RegInv.ILv.step (Pr := (PrL r k n b2 b5 b9 q (.slice adr q capr) rows (lineAt nx h k n rows q) wr.heap.size)) (n := 18) (vs := [u0, u1, u2, u3, u4, u5, u6, (.slice a7 n c7), u8, u9, (.slice a10 n c10), u11, u12, u13, (.slice a14 n c14), u15, u16, u17]) PrL.mono rfl hB9 hA 15 (.agg #[.slice a7 n c7, .slice a10 n c10, .slice a14 n c14]) (Below.refl _ _) (⟨_, _, _, _, _, _, rfl, y7, y10, y14⟩)
          have hk := hK' _ _ (hK _ _ hI)
          revert hk
          go_simp
        | 16, _ =>
          have hd' : ([2, 3, 15, 14] : List Nat).all L = true := hd
          simp only [List.all_cons, List.all_nil, Bool.and_true, Bool.and_eq_true] at hd'
          have hp2 : PrL r k n b2 b5 b9 q (.slice adr q capr) rows (lineAt nx h k n rows q) wr.heap.size 2 u2 w' := hA 2 (by omega) (hd'.1)
          obtain rfl : u2 = ruleV r := hp2
          have hp3 : PrL r k n b2 b5 b9 q (.slice adr q capr) rows (lineAt nx h k n rows q) wr.heap.size 3 u3 w' := hA 3 (by omega) (hd'.2.1)
          obtain rfl : u3 = topoV k (n : Int) 0 := hp3
          have hp15 : PrL r k n b2 b5 b9 q (.slice adr q capr) rows (lineAt nx h k n rows q) wr.heap.size 15 u15 w' := hA 15 (by omega) (hd'.2.2.1)
          obtain ⟨a0, c0, a1, c1, a2, c2, rfl, y0, y1, y2⟩ := hp15
          have hp14 : PrL r k n b2 b5 b9 q (.slice adr q capr) rows (lineAt nx h k n rows q) wr.heap.size 14 u14 w' := hA 14 (by omega) (hd'.2.2.2)
          obtain ⟨a14, c14, rfl, y14⟩ := hp14
          have KL := Lib.hid (line54G (w := w') (R := fun y => rowZ n rows ((q : Int) - 2 + (y : Int))) (fun i => if i = 0 then a0 else if i = 1 then a1 else a2) (fun i => if i = 0 then c0 else if i = 1 then c1 else c2) S'.out hw'.out (fun i hi => by
            match i, hi with
            | 0, _ => exact (show rowZ n rows ((q : Int) - 1 - 1) = rowZ n rows ((q : Int) - 2 + ((0 : Nat) : Int)) by congr 1; omega) ▸ y0
            | 1, _ => exact (show rowZ n rows ((q : Int) - 1) = rowZ n rows ((q : Int) - 2 + ((1 : Nat) : Int)) by congr 1; omega) ▸ y1
            | 2, _ => exact (show rowZ n rows ((q : Int)) = rowZ n rows ((q : Int) - 2 + ((2 : Nat) : Int)) by congr 1; omega) ▸ y2) (fun i hi => rowZ_len hl'.out _) (fun i j hi => rowZ_lt S'.out.ns2.1 h2'.out _ _))
          clear y0 y1 y2 y14
          refine wpOp_step rfl (fun K' hK' => ?_)
          go_simp
          refine (KL.out).mono ?_
          rintro e w6 ⟨g, rfl, hg, hY, hb⟩
          have hgN : Hid (wr.heap.size ≤ g) := Nat.le_trans hB9.size hg
          have hY' : Hid (YBlk w6 g (lineAt nx h k n rows q)) := hY
          have hb6 := Lib.hid hb
          clear hg hY hb
          have hI : RegInv.ILv (PrL r k n b2 b5 b9 q (.slice adr q capr) rows (lineAt nx h k n rows q) wr.heap.size) 18 wr (fun j => decide (j = 16) || L j) [u0, u1, (ruleV r), (topoV k (n : Int) 0), u4, u5, u6, u7, u8, u9, u10, u11, u12, u13, (.slice a14 n c14), (.agg #[.slice a0 n c0, .slice a1 n c1, .slice a2 n c2]), (.slice (some ⟨g, 0, none⟩) n n), u17] w6 := RegInv.ILv.step (Pr := (PrL r k n b2 b5 b9 q (.slice adr q capr) rows (lineAt nx h k n rows q) wr.heap.size)) (n := 18) (vs := [u0, u1, (ruleV r), (topoV k (n : Int) 0), u4, u5, u6, u7, u8, u9, u10, u11, u12, u13, (.slice a14 n c14), (.agg #[.slice a0 n c0, .slice a1 n c1, .slice a2 n c2]), u16, u17]) PrL.mono rfl hB9 hA 16 (.slice (some ⟨g, 0, none⟩) n n) hb6.out (⟨g, rfl, hgN.out, hY'.out⟩)
          have hk := hK' _ _ (hK _ _ hI)
          revert hk
          go_simp
        | 17, _ =>
          have hd' : ([16] : List Nat).all L = true := hd
          simp only [List.all_cons, List.all_nil, Bool.and_true, Bool.and_eq_true] at hd'
          have hp16 : PrL r k n b2 b5 b9 q (.slice adr q capr) rows (lineAt nx h k n rows q) wr.heap.size 16 u16 w' := hA 16 (by omega) (hd')
          obtain ⟨g, rfl, hgN, hY⟩ := hp16
          have hcn : Hid ((w'.alloc (.cells #[.slice (some ⟨g, 0, none⟩) n n] 53)).cell? ⟨w'.heap.size, 0, none⟩ = some (.slice (some ⟨g, 0, none⟩) n n)) := by
            show _ = _
            rw [cell_of_row _ _ 0 _ 53 (0, 0) (heap_alloc_new w' _)]
            rfl
          have hY' : Hid (YBlk (w'.alloc (.cells #[.slice (some ⟨g, 0, none⟩) n n] 53)) g (lineAt nx h k n rows q)) := hY.kept (below_new _)
          clear hY
          refine wpOp_step rfl (fun K' hK' => ?_)
          go_simp
          have hI : RegInv.ILv (PrL r k n b2 b5 b9 q (.slice adr q capr) rows (lineAt nx h k n rows q) wr.heap.size) 18 wr (fun j => decide (j = 17) || L j) [u0, u1, u2, u3, u4, u5, u6, u7, u8, u9, u10, u11, u12, u13, u14, u15, (.slice (some ⟨g, 0, none⟩) n n), (.slice (some ⟨w'.heap.size, 0, none⟩) 1 1)] (w'.alloc (.cells #[.slice (some ⟨g, 0, none⟩) n n] 53)) := RegInv.ILv.step (Pr := (PrL r k n b2 b5 b9 q (.slice adr q capr) rows (lineAt nx h k n rows q) wr.heap.size)) (n := 18) (vs := [u0, u1, u2, u3, u4, u5, u6, u7, u8, u9, u10, u11, u12, u13, u14, u15, (.slice (some ⟨g, 0, none⟩) n n), u17]) PrL.mono rfl hB9 hA 17 (.slice (some ⟨w'.heap.size, 0, none⟩) 1 1) (below_new _) (⟨w'.heap.size, g, rfl, hcn.out, hB9.size, hgN, hY'.out⟩)
          have hk := hK' _ _ (hK _ _ hI)
          revert hk
          go_simp
        | (_ + 18), h18 => exact absurd h18 (by omega)
      · intro vs w' hI
        obtain ⟨hlen, hB9, hA0⟩ := hI
        obtain ⟨us, rfl⟩ := RegInv.list_fn hlen
        have hp1 : us 1 = .slice adr q capr := hA0 1 (by omega) (by decide)
        have hp17 : PrL r k n b2 b5 b9 q (.slice adr q capr) rows (lineAt nx h k n rows q) wr.heap.size 17 (us 17) w' := hA0 17 (by omega) (by decide)
        change wpList _ _ _ _ (RegInv.putAll _ _ [us 0, us 1, us 2, us 3, us 4, us 5, us 6, us 7, us 8, us 9, us 10, us 11, us 12, us 13, us 14, us 15, us 16, us 17]) _
        clear hlen hA0
        generalize us 0 = u0 at *
        generalize us 1 = u1 at *
        generalize us 2 = u2 at *
        generalize us 3 = u3 at *
        generalize us 4 = u4 at *
        generalize us 5 = u5 at *
        generalize us 6 = u6 at *
        generalize us 7 = u7 at *
        generalize us 8 = u8 at *
        generalize us 9 = u9 at *
        generalize us 10 = u10 at *
        generalize us 11 = u11 at *
        generalize us 12 = u12 at *
        generalize us 13 = u13 at *
        generalize us 14 = u14 at *
        generalize us 15 = u15 at *
        generalize us 16 = u16 at *
        generalize us 17 = u17 at *
        clear us
        subst hp1
        obtain ⟨bx, g, rfl, hcx, hbx, hgN, hY⟩ := hp17
        have hB9' := Lib.hid hB9
        have hY' := Lib.hid hY
        have hownw := Lib.hid (own_below hown'.out hB9)
        have hgsw : Hid (∀ j, j < q → b9 + 1 ≤ gs j ∧ YBlk w' (gs j) (lineAt nx h k n rows j)) := fun j hj => ⟨(hgs'.out j hj).1, (hgs'.out j hj).2.kept hB9⟩
        have hblkw : Hid (w'.heap[b9]? = some (.cells #[.int .i64 (n : Int), .int .i64 (at' - 1), .slice adr q capr] 73 (0, 0))) := (hB9.block b9 hb9w).trans hblk'.out
        have hb9w' : b9 < w'.heap.size := by have := hB9.size; omega
        have hBw' : Hid (Below b9 W7 w') := hB'.out.trans (hB9.mono (by omega))
        obtain ⟨i0, hi, hq0, hq1, hq2⟩ := info_parts info53'
        have hi' := Lib.hid hi
        have hz9 : b9 + 1 ≤ w'.heap.size := hb9w'
        have hcx' := Lib.hid hcx
        clear hi hB9 hY hcx
        simp only [List.drop_succ_cons, List.drop_zero]
        go_simp
        go_wp2_with (at_builtin; refine wpList_append_own _ rfl _ _ 57 rfl (b9 + 1) 53 i0 _ 1 24 Try.underlying57 hi'.out hq0 hq1 hq2 rfl (by decide) (.slice adr q capr) q _ rfl hownw.out ⟨bx, 0, none⟩ 1 1 [.slice (some ⟨g, 0, none⟩) n n] rfl rfl ?c1 ?c2 ?c3 ?c4 ?c5 ?_)
        case c1 =>
          intro j u hj
          match j, hj with
          | 0, hj => simp at hj; subst hj; simpa [Addr.add] using hcx'.out
        case c2 => intro u hu; simp at hu; subst hu; rfl
        case c3 => unfold maxLen; omega
        case c4 => omega
        case c5 => exact hz9
        intro v' w6 hown6 hgrow6 _
        obtain ⟨ad7, cap7, rfl⟩ := own_shape hown6
        have hvb : (Value.slice adr q capr).ownBlock ≠ some b9 := fun e => by have := own_block_le hownw.out b9 e; omega
        have hbl : w6.heap[b9]? = some (.cells #[.int .i64 (n : Int), .int .i64 (at' - 1), .slice adr q capr] 73 (0, 0)) := (hgrow6.block b9 hb9w' (fun e => hvb e.symm)).trans hblkw.out
        have hBx : Hid (Below b9 W7 w6) := hBw'.out.grown hgrow6 (by omega) (fun t ht => by have := own_block_le hownw.out t ht; omega)
        have hYB : ∀ (g' : Nat) (l : List Nat), YBlk w' g' l → b9 + 1 ≤ g' → YBlk w6 g' l := fun g' l hy hg' => by
          refine (hgrow6.block g' hy.lt (fun e => ?_)).trans hy
          rcases hownw.out.2 with ⟨e1, _⟩ | ⟨g2, cp, cur, e1, _, hg2, _⟩
          · rw [e1] at e; cases e
          · rw [e1] at e
            injection e with e
            have e : g' = g2 := e
            subst e
            rw [show w'.heap[g']? = _ from hy] at hg2
            injection hg2 with hg2
            injection hg2 with _ ht
            cases ht
        have hYall : Hid (∀ j, j < q + 1 → b9 + 1 ≤ (if j = q then g else gs j) ∧ YBlk w6 (if j = q then g else gs j) (lineAt nx h k n rows j)) := fun j hj => by
          by_cases e : j = q
          · subst e
            rw [if_pos rfl]
            exact ⟨by omega, hYB _ _ hY'.out (by omega)⟩
          · rw [if_neg e]
            have := hgsw.out j (by omega)
            exact ⟨this.1, hYB _ _ this.2 this.1⟩
        have hown7 : Hid (w6.ownsRow (b9 + 1) 53 1 (.slice ad7 (q + 1) cap7) (q + 1) ((List.range (q + 1)).map fun j => .slice (some ⟨if j = q then g else gs j, 0, none⟩) n n)) := by
          have h1 : ((List.range (q + 1)).map fun j => (Value.slice (some ⟨if j = q then g else gs j, 0, none⟩) n n)) = ((List.range q).map fun j => .slice (some ⟨gs j, 0, none⟩) n n) ++ [.slice (some ⟨g, 0, none⟩) n n] := by
            rw [List.range_succ, List.map_append]
            congr 1
            · apply List.map_congr_left
              intro j hj
              have : ¬ j = q := by have := List.mem_range.1 hj; omega
              rw [if_neg this]
            · simp
          show w6.ownsRow _ _ _ _ _ _
          rw [h1]
          exact hown6
        have s1 : w6.cell? ⟨b9, 2, none⟩ = some (.slice adr q capr) := by rw [cell_of_row w6 b9 2 _ 73 (0, 0) hbl]; rfl
        have s2 : w6.frozen? ⟨b9, 2, none⟩ = false := frozen_of_row w6 _ 2 _ 73 hbl
        have hbl' := Lib.hid hbl
        clear hbl hown6 hgrow6 hYB hvb
        go_wp2
        refine ⟨⟨q + 1, .slice ad7 (q + 1) cap7, fun j => if j = q then g else gs j, by omega, by congr 1; omega, hBx.out.setCell (by simp) _, (heap_setCell_same w6 b9 2 _ 73 _ hbl'.out).trans rfl, own_setOther hown7.out (by omega) _, fun j hj => ⟨(hYall.out j hj).1, (hYall.out j hj).2.setOther (by have := (hYall.out j hj).1; omega) _⟩⟩, by simp [intOf]; omega⟩
    · have hqe : Hid (q = rows.length + 2) := by show q = _; omega
      have hq1 : ¬ ((q : Int) - 1 ≤ (rows.length : Int)) := by omega
      have hq2 : q ≤ 1000000000000 := by omega
      clear hlt
      have d0 : wr.cell? ⟨b9, 0, none⟩ = some (.int .i64 (n : Int)) := by rw [cell_of_row wr b9 0 _ 73 (0, 0) hblk'.out]; rfl
      have d1 : wr.cell? ⟨b9, 1, none⟩ = some (.int .i64 (at' - 1)) := by rw [cell_of_row wr b9 1 _ 73 (0, 0) hblk'.out]; rfl
      have d2 : wr.cell? ⟨b9, 2, none⟩ = some (.slice adr q capr) := by rw [cell_of_row wr b9 2 _ 73 (0, 0) hblk'.out]; rfl
      have hsl : Hid ((stepRows nx h k n rows).length = q) := by show _ = q; rw [stepRows_len, hqe.out]
      have hsg : Hid (∀ i, i < (stepRows nx h k n rows).length → (stepRows nx h k n rows).getD i [] = lineAt nx h k n rows i) := fun i hi => stepRows_get _ _ _ _ _ (by rw [stepRows_len] at hi; exact hi)
      have hll : Hid (∀ i, (lineAt nx h k n rows i).length = n) := fun i => winG_len _ _ _ _ _
      have hHL : Hid (HasL wr (.slice adr q capr) (stepRows nx h k n rows)) := by
        refine ⟨adr, capr, by rw [hsl.out], ?_, fun i hi => ?_⟩
        · rw [hsl.out]
          rcases hown'.out.2 with ⟨e1, e2⟩ | ⟨g, cp, cur, e1, _, _, hle, _⟩
          · omega
          · injection e1 with e1 e2 e3
            omega
        · have hi2 : i < q := by rw [hsl.out] at hi; exact hi
          rcases hown'.out.2 with ⟨e1, e2⟩ | ⟨g, cp, cur, e1, _, _, hle, _⟩
          · omega
          · have ho := hown'.out
            rw [e1] at ho
            injection e1 with e1 e2 e3
            have hy := (hgs'.out i hi2).2
            refine ⟨g, 0, .slice (some ⟨gs i, 0, none⟩) n n, e1, ?_, ?_⟩
            · rw [Nat.zero_add, ho.cellAt i (by omega)]
              simp [hi2]
            · rw [hsg.out i hi]
              exact has_of hy (hll.out i)
      have K60 := Lib.hid (trimmed60 (n := (n : Int)) (at' := at' - 1) (w := wr) (v := .slice adr q capr) (rows := stepRows nx h k n rows) (by rw [hsl.out]; omega) (fun _ => by omega) hHL.out (fun i hi => by rw [hsg.out i hi, hll.out]; omega))
      go_wp2_with fail
      refine (K60.out).mono ?_
      rintro e w5 hp
      obtain ⟨kk, m, v5, hT, rfl, hL5, hb5⟩ := hp
      have hT' := Lib.hid hT
      have hL5' := Lib.hid hL5
      have hb5' := Lib.hid hb5
      have hcl : (cut (stepRows nx h k n rows) kk m).length = m := cut_len hT.le
      have K59 := Lib.hid (copied59 (n := n) (at' := if m = 0 then 0 else at' - 1 + (kk : Int)) (w := w5) (v := v5) (rows := cut (stepRows nx h k n rows) kk m) ⟨n1, n2⟩ (by
        rw [hcl]
        have h1 := hT.le
        rw [hsl.out, hqe.out] at h1
        exact Nat.le_trans (Nat.mul_le_mul_right n (by omega)) hr'.out) hL5 (fun i hi => by
        rw [hcl] at hi
        rw [cut_get hT.le hi, hsg.out _ (by have := hT.le; omega), hll.out]))
      obtain ⟨ad5, cap5, rfl⟩ : ∃ a c, v5 = .slice a m c := by
        obtain ⟨a, c, e, _⟩ := hL5
        exact ⟨a, c, by rw [e, hcl]⟩
      generalize hat2 : (if m = 0 then 0 else at' - 1 + (kk : Int)) = at2 at *
      have hat2' := Lib.hid hat2
      clear hat2 hT hL5 hb5 hcl d0 d1 d2 c2
      go_wp2_with fail
      refine (K59.out).mono ?_
      rintro e w6 hp
      obtain ⟨v6, rfl, hL6, hb6⟩ := hp
      have hcl : (cut (stepRows nx h k n rows) kk m).length = m := cut_len hT'.out.le
      have hBf := Lib.hid (below_then (below_then hBwr.out hb5'.out hBwr.out.size) hb6 (by have := hBwr.out.size; have := hb5'.out.size; omega))
      have hL6' := Lib.hid hL6
      have hL6 := hL6.has
      have hz56 : b3 < w5.heap.size := by have := hBwr.out.size; have := hb5'.out.size; omega
      have hz57 : w.heap.size ≤ w5.heap.size := by have := hBwr.out.size; have := hb5'.out.size; omega
      obtain ⟨ad6, cap6, rfl⟩ : ∃ a c, v6 = .slice a m c := by
        obtain ⟨a, c, e, _⟩ := hL6
        exact ⟨a, c, by rw [e, hcl]⟩
      have E6 := Lib.hid ((E5.out.kept hb5'.out).kept hb6)
      have hm3 : (b3, (#[.int .i64 0, .int .i64 0, .slice none 0 0] : Array Value), 73) ∈ [(b5, #[.slice (some ⟨b4, 0, none⟩) n n], 53), (b4, madeCells #[.int .u8 0] n, 5), (b3, #[.int .i64 0, .int .i64 0, .slice none 0 0], 73), (b2, #[.int .i64 (n : Int), .int .i64 at', .slice ad rows.length cap], 73), (b1, #[.int .u8 k, .int .i64 (n : Int), .int .i64 0, .int .u8 0, .int .i64 0], 49), (b0, ruleC r, 46)] := by simp
      have f0 : w6.frozen? ⟨b3, 0, none⟩ = false := frozen_of_row w6 _ 0 _ 73 (E6.out _ hm3)
      have f1 : w6.frozen? ⟨b3, 1, none⟩ = false := frozen_of_row w6 _ 1 _ 73 (E6.out _ hm3)
      have f2 : w6.frozen? ⟨b3, 2, none⟩ = false := frozen_of_row w6 _ 2 _ 73 (E6.out _ hm3)
      have d0 : w6.cell? ⟨b3, 0, none⟩ = some (.int .i64 0) := E6.out.cell hm3 rfl
      have d1 : w6.cell? ⟨b3, 1, none⟩ = some (.int .i64 0) := E6.out.cell hm3 rfl
      have d2 : w6.cell? ⟨b3, 2, none⟩ = some (.slice none 0 0) := E6.out.cell hm3 rfl
      clear hL6 hb6 hm3 hcl
      go_wp2
      refine bodyPost_ret (v := bandV (n : Int) at2 (.slice ad6 m cap6)) ?_ rfl ⟨kk, m, _, hT'.out, by rw [hat2'.out], (((hL6'.out.set hz56 _).set hz56 _).set hz56 _).le hz57, ((hBf.out.setCell (by have := hb0'.out; simp; omega) _).setCell (by have := hb0'.out; simp; omega) _).setCell (by have := hb0'.out; simp; omega) _⟩
      rw [results_cell1 rfl]
      go_simp
end Go.Proofs.Ytigghbehnnghnaa
