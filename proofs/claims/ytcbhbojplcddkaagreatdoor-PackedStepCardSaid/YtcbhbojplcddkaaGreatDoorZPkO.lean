import Derived.Test.YtcbhbojplcddkaaGreatDoorZPkK
namespace Go.Proofs.YtcbhbojplcddkaaGreatDoor
open Go.RowKit Go.RowBits
set_option linter.unusedSimpArgs false
set_option linter.unusedVariables false

/-! ### What Line answers, the program's and the document's -/
def rowsOk (N0 N1 N2 : Int) (a h b : List Nat) : Prop := (RowOk N0 a ∧ 3 ≤ N0) ∧ (RowOk N1 h ∧ 3 ≤ N1) ∧ (RowOk N2 b ∧ 3 ≤ N2)
noncomputable instance (N0 N1 N2 : Int) (a h b : List Nat) : Decidable (rowsOk N0 N1 N2 a h b) := Classical.propDecidable _
noncomputable def lineE (hood : Int) (born stay : Nat) (N0 N1 N2 : Int) (a h b : List Nat) : Int :=
  if lifeE hood born stay = 0 then (if rowsOk N0 N1 N2 a h b then (if N0 = N1 ∧ N2 = N1 then 0 else 21) else 20) else 8
/-- The answer in memory. -/
def LineIs (w w' : World) (hood : Int) (born stay : Nat) (N0 N1 N2 : Int) (a h b : List Nat) (e : Ending) : Prop :=
  if lineE hood born stay N0 N1 N2 a h b = 0 then ∃ g, e = .returned (.tuple #[.agg #[.int .i64 (N1 - 2), .slice (some ⟨g, 0, none⟩) (pack (lineB (offs hood) born stay a h b (N1 - 2).toNat)).length (pack (lineB (offs hood) born stay a h b (N1 - 2).toNat)).length], .int .i64 0]) ∧
    w.heap.size ≤ g ∧ WBlk w' g (pack (lineB (offs hood) born stay a h b (N1 - 2).toNat)) ∧ Below w.heap.size w w'
  else e = .returned (.tuple #[.agg #[.int .i64 0, .slice none 0 0], .int .i64 (lineE hood born stay N0 N1 N2 a h b)]) ∧ Below w.heap.size w w'

theorem lineIs_err {w w' : World} {hood : Int} {born stay : Nat} {N0 N1 N2 : Int} {a h b : List Nat} {e : Ending} {E : Int} (hL : lineE hood born stay N0 N1 N2 a h b = E) (h0 : E ≠ 0)
    (hq : e = .returned (.tuple #[.agg #[.int .i64 0, .slice none 0 0], .int .i64 E]) ∧ Below w.heap.size w w') : LineIs w w' hood born stay N0 N1 N2 a h b e := by
  unfold LineIs
  rw [if_neg (by rw [hL]; exact h0), hL]
  exact hq
theorem lifeE_good {h : Int} {born stay : Nat} (hE : lifeE h born stay = 0) : (h = 1 ∨ h = 2 ∨ h = 3) ∧ ruleOk h born stay := by
  unfold lifeE at hE
  by_cases hh : h = 1 ∨ h = 2 ∨ h = 3
  · rw [if_pos hh] at hE
    by_cases hr : ruleOk h born stay
    · exact ⟨hh, hr⟩
    · rw [if_neg hr] at hE; cases hE
  · rw [if_neg hh] at hE; cases hE
theorem lineIs_ok {w w' : World} {hood : Int} {born stay n g : Nat} {N0 N1 N2 : Int} {a h b : List Nat} {e : Ending} (hL : lineE hood born stay N0 N1 N2 a h b = 0) (hh : hood = 1 ∨ hood = 2 ∨ hood = 3) (r : Rows64 a h b) (hN : N1 = (n : Int)) (hn3 : 3 ≤ n)
    (he : e = .returned (.tuple #[.agg #[.int .i64 ((n : Int) - 2), .slice (some ⟨g, 0, none⟩) ((n - 2 + 63) / 64) ((n - 2 + 63) / 64)], .int .i64 0])) (hg : w.heap.size ≤ g) (hW : WBlk w' g (maskW (n - 2) (outW (offs hood) born stay a h b (n - 2)))) (hB : Below w.heap.size w w') :
    LineIs w w' hood born stay N0 N1 N2 a h b e := by
  unfold LineIs
  rw [if_pos hL, hN, show ((n : Int) - 2).toNat = n - 2 from by omega]
  rw [line_eq r (fun k hk => (offs_near hh k hk).1) (offs_len hood)] at hW
  have hpl : (pack (lineB (offs hood) born stay a h b (n - 2))).length = (n - 2 + 63) / 64 := by
    have := (pack_good (lineB (offs hood) born stay a h b (n - 2))).len
    rw [this]
    unfold lineB
    simp
  exact ⟨g, by rw [hpl]; exact he, hg, hW, hB⟩
def fn3 {α : Type} (x y z : α) : Nat → α
  | 0 => x
  | 1 => y
  | _ => z
theorem jdx99_0 (n0 n1 n2 : Int) (v0 v1 v2 : Value) (w : World) : (Instr.index 75 (.agg #[.int .i64 n0, v0, .int .i64 n1, v1, .int .i64 n2, v2]) (.int .i64 0)).run Tryz.prog w = .ok (.agg #[.int .i64 n0, v0]) w := by kernel_rfl
theorem jdx99_1 (n0 n1 n2 : Int) (v0 v1 v2 : Value) (w : World) : (Instr.index 75 (.agg #[.int .i64 n0, v0, .int .i64 n1, v1, .int .i64 n2, v2]) (.int .i64 1)).run Tryz.prog w = .ok (.agg #[.int .i64 n1, v1]) w := by kernel_rfl
theorem jdx99_2 (n0 n1 n2 : Int) (v0 v1 v2 : Value) (w : World) : (Instr.index 75 (.agg #[.int .i64 n0, v0, .int .i64 n1, v1, .int .i64 n2, v2]) (.int .i64 2)).run Tryz.prog w = .ok (.agg #[.int .i64 n2, v2]) w := by kernel_rfl
theorem jdx99 (nf : Nat → Int) (af : Nat → Option Addr) (lf cf : Nat → Nat) {y : Nat} (hy : y < 3) (w : World) :
    (Instr.index 75 (.agg #[.int .i64 (nf 0), .slice (af 0) (lf 0) (cf 0), .int .i64 (nf 1), .slice (af 1) (lf 1) (cf 1), .int .i64 (nf 2), .slice (af 2) (lf 2) (cf 2)]) (.int .i64 (y : Int))).run Tryz.prog w = .ok (.agg #[.int .i64 (nf y), .slice (af y) (lf y) (cf y)]) w := by
  match y, hy with
  | 0, _ => exact jdx99_0 _ _ _ _ _ _ w
  | 1, _ => exact jdx99_1 _ _ _ _ _ _ w
  | 2, _ => exact jdx99_2 _ _ _ _ _ _ w
def threeL (n0 n1 n2 : Int) (v0 v1 v2 : Value) : List Value := [.int .i64 n0, v0, .int .i64 n1, v1, .int .i64 n2, v2]
theorem three_cells (w : World) (n0 n1 n2 : Int) (v0 v1 v2 : Value) : ∀ j, j < 6 → (w.alloc (.cells #[.int .i64 n0, v0, .int .i64 n1, v1, .int .i64 n2, v2] 75)).cell? ⟨w.heap.size, j, none⟩ = (threeL n0 n1 n2 v0 v1 v2)[j]? := by
  intro j hj
  match j, hj with
  | 0, _ | 1, _ | 2, _ | 3, _ | 4, _ | 5, _ => go_simp; rfl
def PLr (W0 : World) (nf : Nat → Int) (R : Nat → List Nat) (i : Value) (wr : World) : Prop := ∃ y : Nat, y ≤ 3 ∧ i = .int .i64 (y : Int) ∧ (∀ j, j < y → RowOk (nf j) (R j) ∧ 3 ≤ nf j) ∧ Below W0.heap.size W0 wr

set_option maxRecDepth 100000 in
set_option maxHeartbeats 16000000 in
theorem pline14 {w : World} {hood : Int} {born stay : Nat} (hb1 : born < 65536) (hs1 : stay < 65536) (nf : Nat → Int) (vf : Nat → Value) (R : Nat → List Nat) (hR : ∀ j, j < 3 → HasW w (vf j) (R j)) (h64 : ∀ j, j < 3 → W64 (R j)) :
    Calls Tryz.prog 15 #[.agg #[.int .u8 hood, .int .u16 (born : Int), .int .u16 (stay : Int)], .agg #[.int .i64 (nf 0), vf 0], .agg #[.int .i64 (nf 1), vf 1], .agg #[.int .i64 (nf 2), vf 2]] w fun e w' =>
      LineIs w w' hood born stay (nf 0) (nf 1) (nf 2) (R 0) (R 1) (R 2) e := by
  have K1 := Lib.hid (fun W => lifeCheck (h := hood) hb1 hs1 W)
  have hR' := Lib.hid hR
  have h64' := Lib.hid h64
  have hv : ∀ j, j < 3 → ∃ ad cap, vf j = .slice ad (R j).length cap := fun j hj => by
    obtain ⟨ad, cap, e, _⟩ := hR j hj
    exact ⟨ad, cap, e⟩
  obtain ⟨a0, c0, e0⟩ := hv 0 (by omega)
  obtain ⟨a1, c1, e1⟩ := hv 1 (by omega)
  obtain ⟨a2, c2, e2⟩ := hv 2 (by omega)
  have hvf : Hid (∀ j, j < 3 → vf j = .slice (fn3 a0 a1 a2 j) (R j).length (fn3 c0 c1 c2 j)) := fun j hj => by
    match j, hj with
    | 0, _ => exact e0
    | 1, _ => exact e1
    | 2, _ => exact e2
  rw [e0, e1, e2]
  clear hv e0 e1 e2 hR h64
  by_cases hE : lifeE hood born stay = 0
  · rw [hE] at K1
    have hR0 := Lib.hid (fun j hj => (hvf.out j hj) ▸ hR'.out j hj)
    have hL20 : Hid (¬ rowsOk (nf 0) (nf 1) (nf 2) (R 0) (R 1) (R 2) → lineE hood born stay (nf 0) (nf 1) (nf 2) (R 0) (R 1) (R 2) = 20) := fun hn => by unfold lineE; rw [if_pos hE, if_neg hn]
    have hL21 : Hid (rowsOk (nf 0) (nf 1) (nf 2) (R 0) (R 1) (R 2) → ¬ (nf 0 = nf 1 ∧ nf 2 = nf 1) → lineE hood born stay (nf 0) (nf 1) (nf 2) (R 0) (R 1) (R 2) = 21) := fun hn h2 => by unfold lineE; rw [if_pos hE, if_pos hn, if_neg h2]
    have hL0 : Hid (rowsOk (nf 0) (nf 1) (nf 2) (R 0) (R 1) (R 2) → (nf 0 = nf 1 ∧ nf 2 = nf 1) → lineE hood born stay (nf 0) (nf 1) (nf 2) (R 0) (R 1) (R 2) = 0) := fun hn h2 => by unfold lineE; rw [if_pos hE, if_pos hn, if_pos h2]
    have hidx : Hid (∀ y, y < 3 → ∀ W, (Instr.index 75 (.agg #[.int .i64 (nf 0), .slice a0 (R 0).length c0, .int .i64 (nf 1), .slice a1 (R 1).length c1, .int .i64 (nf 2), .slice a2 (R 2).length c2]) (.int .i64 ((y : Nat) : Int))).run Tryz.prog W = .ok (.agg #[.int .i64 (nf y), .slice (fn3 a0 a1 a2 y) (R y).length (fn3 c0 c1 c2 y)]) W) :=
      fun y hy W => jdx99 nf (fn3 a0 a1 a2) (fun j => (R j).length) (fn3 c0 c1 c2) hy W
    have hE' := Lib.hid hE
    clear hE
    go_enter Tryz.func15, Tryz.ntmps15
    go_wp2_with fail
    refine (K1.out _).mono ?_
    rintro e w1 ⟨rfl, hb⟩
    obtain ⟨hc1, hf1⟩ := bcell hb
    have hz1 : w.heap.size + 1 + 1 + 1 + 1 < w1.heap.size := by have := hb.size; simp at this; omega
    have hB : Hid (Below w.heap.size w w1) := below_then (((((below_new _).alloc (by simp) _).alloc (by simp; omega) _).alloc (by simp; omega) _).alloc (by simp; omega) _) hb (by simp; omega)
    clear hb
    have x0 : w1.cell? ⟨w.heap.size, 0, none⟩ = some (.int .u8 hood) := by go_simp
    have x1 : w1.cell? ⟨w.heap.size, 1, none⟩ = some (.int .u16 (born : Int)) := by go_simp
    have x2 : w1.cell? ⟨w.heap.size, 2, none⟩ = some (.int .u16 (stay : Int)) := by go_simp
    have n0 : w1.cell? ⟨w.heap.size + 1, 0, none⟩ = some (.int .i64 (nf 0)) := by go_simp
    have n1 : w1.cell? ⟨w.heap.size + 1 + 1, 0, none⟩ = some (.int .i64 (nf 1)) := by go_simp
    have n2 : w1.cell? ⟨w.heap.size + 1 + 1 + 1, 0, none⟩ = some (.int .i64 (nf 2)) := by go_simp
    have r0 : w1.cell? ⟨w.heap.size + 1 + 1 + 1 + 1, 0, none⟩ = some (.int .i64 0) := by go_simp
    have r1 : w1.cell? ⟨w.heap.size + 1 + 1 + 1 + 1, 1, none⟩ = some (.slice none 0 0) := by go_simp
    have rf : ∀ o, w1.frozen? ⟨w.heap.size + 1 + 1 + 1 + 1, o, none⟩ = false := fun o => by go_simp
    have hq := Lib.hid (fun (b o : Nat) (u : Value) (h : w1.cell? ⟨b, o, none⟩ = some u) => cell_kept (below_new (.cells #[.int .i64 (nf 0), .slice a0 (R 0).length c0, .int .i64 (nf 1), .slice a1 (R 1).length c1, .int .i64 (nf 2), .slice a2 (R 2).length c2] 75)) h)
    have X0 := Lib.hid (hq.out _ _ _ x0)
    have X1 := Lib.hid (hq.out _ _ _ x1)
    have X2 := Lib.hid (hq.out _ _ _ x2)
    have N0 := Lib.hid (hq.out _ _ _ n0)
    have N1 := Lib.hid (hq.out _ _ _ n1)
    have N2 := Lib.hid (hq.out _ _ _ n2)
    have R0 := Lib.hid (hq.out _ _ _ r0)
    have R1 := Lib.hid (hq.out _ _ _ r1)
    have RF : Hid (∀ o, (w1.alloc (.cells #[.int .i64 (nf 0), .slice a0 (R 0).length c0, .int .i64 (nf 1), .slice a1 (R 1).length c1, .int .i64 (nf 2), .slice a2 (R 2).length c2] 75)).frozen? ⟨w.heap.size + 1 + 1 + 1 + 1, o, none⟩ = false) := fun o => by
      rw [(below_new _).frozen (p := ⟨w.heap.size + 1 + 1 + 1 + 1, o, none⟩) (by simpa using hz1)]
      exact rf o
    have T := Lib.hid (three_cells w1 (nf 0) (nf 1) (nf 2) (.slice a0 (R 0).length c0) (.slice a1 (R 1).length c1) (.slice a2 (R 2).length c2))
    have HB0 := Lib.hid (hB.out.alloc (by have := hB.out.size; omega) (.cells #[.int .i64 (nf 0), .slice a0 (R 0).length c0, .int .i64 (nf 1), .slice a1 (R 1).length c1, .int .i64 (nf 2), .slice a2 (R 2).length c2] 75))
    clear hq
    go_wp2
    clear x0 x1 x2 n0 n1 n2 r0 r1 rf hc1 hf1
    have hs0 : (w1.alloc (.cells #[.int .i64 (nf 0), .slice a0 (R 0).length c0, .int .i64 (nf 1), .slice a1 (R 1).length c1, .int .i64 (nf 2), .slice a2 (R 2).length c2] 75)).heap.size = w1.heap.size + 1 := by simp
    generalize (w1.alloc (.cells #[.int .i64 (nf 0), .slice a0 (R 0).length c0, .int .i64 (nf 1), .slice a1 (R 1).length c1, .int .i64 (nf 2), .slice a2 (R 2).length c2] 75)) = W0 at *
    go_loopw [22] (fun i wr => PLr W0 nf R i wr) (fun i _ => 3 - (intOf i).toNat)
    case atStart => exact ⟨0, by omega, by go_num, fun j hj => by omega, Below.refl _ _⟩
    case round =>
      obtain ⟨y, hy, rfl, hok, hB2⟩ := hrel
      have hok' := Lib.hid hok
      have hB2' := Lib.hid hB2
      have hzr : W0.heap.size ≤ wr.heap.size := hB2.size
      have rr0 := cell_kept hB2 R0.out
      have rr1 := cell_kept hB2 R1.out
      have rrf : ∀ o, wr.frozen? ⟨w.heap.size + 1 + 1 + 1 + 1, o, none⟩ = false := fun o => by
        rw [hB2.frozen (p := ⟨w.heap.size + 1 + 1 + 1 + 1, o, none⟩) (by simp; omega)]
        exact RF.out o
      have hBr := Lib.hid (HB0.out.trans (hB2.mono (by have := hB.out.size; omega)))
      clear hok hB2
      by_cases hlt : y < 3
      · have hix := hidx.out y hlt
        have hW := Lib.hid ((hR0.out y hlt).keptB hBr.out (Nat.le_refl _))
        have KV0 := fun W (hw : HasW W (.slice (fn3 a0 a1 a2 y) (R y).length (fn3 c0 c1 c2 y)) (R y)) => valid_any (nf y) hw (h64'.out y hlt)
        have KV := Lib.hid KV0
        have hno : Hid (¬ (RowOk (nf y) (R y) ∧ 3 ≤ nf y) → ¬ rowsOk (nf 0) (nf 1) (nf 2) (R 0) (R 1) (R 2)) := fun hn hr => hn (by
          match y, hlt with
          | 0, _ => exact hr.1
          | 1, _ => exact hr.2.1
          | 2, _ => exact hr.2.2)
        clear KV0
        cases hb : rowOk (nf y) (R y) with
        | false =>
          have KV1 := fun W hw => KV.out W hw
          rw [hb] at KV1
          have KV2 := Lib.hid KV1
          have hL := hL20.out (hno.out (fun e => by have := rowOk_yes e.1; rw [hb] at this; cases this))
          have hL' := Lib.hid hL
          clear KV1 hL KV
          go_wp2_with fail
          refine (KV2.out _ (hW.out.kept (below_new _))).mono ?_
          rintro e w3 ⟨rfl, hb3⟩
          have hz3 : wr.heap.size ≤ w3.heap.size := by have := hb3.size; simp at this; omega
          have s0 : w3.cell? ⟨w.heap.size + 1 + 1 + 1 + 1, 0, none⟩ = some (.int .i64 0) := cell_kept hb3 (cell_kept (below_new _) rr0)
          have s1 : w3.cell? ⟨w.heap.size + 1 + 1 + 1 + 1, 1, none⟩ = some (.slice none 0 0) := cell_kept hb3 (cell_kept (below_new _) rr1)
          have sf : ∀ o, w3.frozen? ⟨w.heap.size + 1 + 1 + 1 + 1, o, none⟩ = false := fun o => by
            rw [hb3.frozen (p := ⟨w.heap.size + 1 + 1 + 1 + 1, o, none⟩) (by simp; omega), (below_new _).frozen (p := ⟨w.heap.size + 1 + 1 + 1 + 1, o, none⟩) (by simp; omega)]
            exact rrf o
          have hB3 := Lib.hid (below_then (hBr.out.alloc (by have := hBr.out.size; omega) (.cells #[.int .i64 (nf y), .slice (fn3 a0 a1 a2 y) (R y).length (fn3 c0 c1 c2 y)] 58)) hb3 (by have := hBr.out.size; simp; omega))
          clear hb3 rr0 rr1 rrf
          go_wp2
          try simp only [Exit.inBlock, Exit.then]
          refine bodyPost_ret (v := .tuple #[.agg #[.int .i64 0, .slice none 0 0], .int .i64 20]) ?_ rfl (lineIs_err hL'.out (by decide) ⟨rfl, ?_⟩)
          · rw [results_cell2 rfl]
            go_simp
          · exact (hB3.out.setCell (by simp; omega) _).setCell (by simp; omega) _
        | true =>
          have KV1 := fun W hw => KV.out W hw
          rw [hb] at KV1
          have KV2 := Lib.hid KV1
          have hro := Lib.hid (rowOk_iff.1 hb)
          clear KV1 KV
          go_wp2_with fail
          refine (KV2.out _ (hW.out.kept (below_new _))).mono ?_
          rintro e w3 ⟨rfl, hb3⟩
          have hz3 : wr.heap.size < w3.heap.size := by have := hb3.size; simp at this; omega
          have s0 : w3.cell? ⟨w.heap.size + 1 + 1 + 1 + 1, 0, none⟩ = some (.int .i64 0) := cell_kept hb3 (cell_kept (below_new _) rr0)
          have s1 : w3.cell? ⟨w.heap.size + 1 + 1 + 1 + 1, 1, none⟩ = some (.slice none 0 0) := cell_kept hb3 (cell_kept (below_new _) rr1)
          have sf : ∀ o, w3.frozen? ⟨w.heap.size + 1 + 1 + 1 + 1, o, none⟩ = false := fun o => by
            rw [hb3.frozen (p := ⟨w.heap.size + 1 + 1 + 1 + 1, o, none⟩) (by simp; omega), (below_new _).frozen (p := ⟨w.heap.size + 1 + 1 + 1 + 1, o, none⟩) (by simp; omega)]
            exact rrf o
          have b0 : w3.cell? ⟨wr.heap.size, 0, none⟩ = some (.int .i64 (nf y)) := cell_kept hb3 (by go_simp)
          have hB3 := Lib.hid (below_then (hBr.out.alloc (by have := hBr.out.size; omega) (.cells #[.int .i64 (nf y), .slice (fn3 a0 a1 a2 y) (R y).length (fn3 c0 c1 c2 y)] 58)) hb3 (by have := hBr.out.size; simp; omega))
          have hB4 := Lib.hid (below_then (hB2'.out.alloc hzr (.cells #[.int .i64 (nf y), .slice (fn3 a0 a1 a2 y) (R y).length (fn3 c0 c1 c2 y)] 58)) hb3 (by simp; omega))
          clear hb3 rr0 rr1 rrf
          by_cases h3 : nf y < 3
          · have hL := hL20.out (hno.out (fun e => by have := e.2; omega))
            have hL' := Lib.hid hL
            clear hL
            go_wp2
            try simp only [Exit.inBlock, Exit.then]
            refine bodyPost_ret (v := .tuple #[.agg #[.int .i64 0, .slice none 0 0], .int .i64 20]) ?_ rfl (lineIs_err hL'.out (by decide) ⟨rfl, ?_⟩)
            · rw [results_cell2 rfl]
              go_simp
            · exact (hB3.out.setCell (by simp; omega) _).setCell (by simp; omega) _
          · have hy1 : Hid (∀ j, j < y + 1 → RowOk (nf j) (R j) ∧ 3 ≤ nf j) := fun j hj => by
              by_cases e : j = y
              · rw [e]; exact ⟨hro.out, by omega⟩
              · exact hok'.out j (by omega)
            go_wp2
            exact ⟨⟨y + 1, by omega, by go_num, hy1.out, hB4.out⟩, by simp [intOf]; omega⟩
      · have hy3 : y = 3 := by omega
        have hrows : Hid (rowsOk (nf 0) (nf 1) (nf 2) (R 0) (R 1) (R 2)) := ⟨hok'.out 0 (by omega), hok'.out 1 (by omega), hok'.out 2 (by omega)⟩
        have y0 := cell_kept hB2'.out N0.out
        have y1 := cell_kept hB2'.out N1.out
        have y2 := cell_kept hB2'.out N2.out
        by_cases heq : nf 0 = nf 1 ∧ nf 2 = nf 1
        · have hL := Lib.hid (hL0.out hrows.out heq)
          obtain ⟨n, hn⟩ : ∃ n : Nat, nf 1 = (n : Int) := ⟨(nf 1).toNat, by have := hrows.out.2.1.1.1; omega⟩
          have hr := hrows.out
          have hn3 : 3 ≤ n := by have := hr.2.1.2; omega
          have hn65 : n ≤ 65538 := by have := hr.2.1.1.2.1; omega
          have g0 : RowGood n (R 0) := by have := hr.1.1.2.2; rw [heq.1, hn, Int.toNat_natCast] at this; exact this
          have g1 : RowGood n (R 1) := by have := hr.2.1.1.2.2; rw [hn, Int.toNat_natCast] at this; exact this
          have g2 : RowGood n (R 2) := by have := hr.2.2.1.2.2; rw [heq.2, hn, Int.toNat_natCast] at this; exact this
          have hgd := lifeE_good hE'.out
          have KL : Hid (∀ W, HasW W (.slice a0 (R 0).length c0) (R 0) → HasW W (.slice a1 (R 1).length c1) (R 1) → HasW W (.slice a2 (R 2).length c2) (R 2) → Calls Tryz.prog 24 #[.agg #[.int .u8 hood, .int .u16 (born : Int), .int .u16 (stay : Int)], .agg #[.int .i64 (n : Int), .slice a0 (R 0).length c0, .int .i64 (n : Int), .slice a1 (R 1).length c1, .int .i64 (n : Int), .slice a2 (R 2).length c2]] W fun e w' => ∃ g, e = .returned (.agg #[.int .i64 ((n : Int) - 2), .slice (some ⟨g, 0, none⟩) ((n - 2 + 63) / 64) ((n - 2 + 63) / 64)]) ∧
            W.heap.size ≤ g ∧ WBlk w' g (maskW (n - 2) (outW (offs hood) born stay (R 0) (R 1) (R 2) (n - 2))) ∧ Below W.heap.size W w') := fun W q0 q1 q2 => line47 hgd.1 hb1 hs1 hn3 hn65 g0 g1 g2 q0 q1 q2
          have hh := Lib.hid hgd.1
          have hw0 := Lib.hid ((hR0.out 0 (by omega)).keptB hBr.out (Nat.le_refl _))
          have hw1 := Lib.hid ((hR0.out 1 (by omega)).keptB hBr.out (Nat.le_refl _))
          have hw2 := Lib.hid ((hR0.out 2 (by omega)).keptB hBr.out (Nat.le_refl _))
          have hr64 : Hid (Rows64 (R 0) (R 1) (R 2)) := ⟨h64'.out 0 (by omega), h64'.out 1 (by omega), h64'.out 2 (by omega)⟩
          have hnn := Lib.hid hn
          have t0 : wr.cell? ⟨w1.heap.size, 0, none⟩ = some (.int .i64 (n : Int)) := cell_kept hB2'.out (by rw [T.out 0 (by omega), ← hn, ← heq.1]; rfl)
          have t1 : wr.cell? ⟨w1.heap.size, 1, none⟩ = some (.slice a0 (R 0).length c0) := cell_kept hB2'.out (by rw [T.out 1 (by omega)]; rfl)
          have t2 : wr.cell? ⟨w1.heap.size, 2, none⟩ = some (.int .i64 (n : Int)) := cell_kept hB2'.out (by rw [T.out 2 (by omega), ← hn]; rfl)
          have t3 : wr.cell? ⟨w1.heap.size, 3, none⟩ = some (.slice a1 (R 1).length c1) := cell_kept hB2'.out (by rw [T.out 3 (by omega)]; rfl)
          have t4 : wr.cell? ⟨w1.heap.size, 4, none⟩ = some (.int .i64 (n : Int)) := cell_kept hB2'.out (by rw [T.out 4 (by omega), ← hn, ← heq.2]; rfl)
          have t5 : wr.cell? ⟨w1.heap.size, 5, none⟩ = some (.slice a2 (R 2).length c2) := cell_kept hB2'.out (by rw [T.out 5 (by omega)]; rfl)
          have z0 := cell_kept hB2'.out X0.out
          have z1 := cell_kept hB2'.out X1.out
          have z2 := cell_kept hB2'.out X2.out
          rw [heq.1, hn] at y0
          rw [hn] at y1
          rw [heq.2, hn] at y2
          clear heq hr hn g0 g1 g2 hgd
          go_wp2_with fail
          refine (KL.out _ hw0.out hw1.out hw2.out).mono ?_
          rintro e w3 ⟨g, rfl, hgl, hblk, hb3⟩
          have hblk' := Lib.hid hblk
          have hgl' : w.heap.size + 1 + 1 + 1 + 1 < g := by omega
          have s0 := cell_kept hb3 rr0
          have s1 := cell_kept hb3 rr1
          have sf : ∀ o, w3.frozen? ⟨w.heap.size + 1 + 1 + 1 + 1, o, none⟩ = false := fun o => by
            rw [hb3.frozen (p := ⟨w.heap.size + 1 + 1 + 1 + 1, o, none⟩) (by simp; omega)]
            exact rrf o
          have hB3 := Lib.hid (below_then hBr.out hb3 (by have := hBr.out.size; omega))
          have hz3 : wr.heap.size ≤ w3.heap.size := hb3.size
          clear hblk hb3 rr0 rr1 rrf
          go_wp2
          try simp only [Exit.inBlock, Exit.then]
          refine bodyPost_ret (v := .tuple #[.agg #[.int .i64 ((n : Int) - 2), .slice (some ⟨g, 0, none⟩) ((n - 2 + 63) / 64) ((n - 2 + 63) / 64)], .int .i64 0]) ?_ rfl (lineIs_ok hL.out hh.out hr64.out hnn.out hn3 rfl (by omega) ?_ ?_)
          · rw [results_cell2 rfl]
            go_simp
          · exact WBlk.setOther (WBlk.setOther hblk'.out (by omega) _) (by omega) _
          · exact (hB3.out.setCell (by simp; omega) _).setCell (by simp; omega) _
        · have hL := hL21.out hrows.out heq
          have hL' := Lib.hid hL
          clear hL hrows
          by_cases h01 : nf 0 = nf 1
          · have h21 : ¬ nf 2 = nf 1 := fun e => heq ⟨h01, e⟩
            clear heq
            rw [h01] at y0
            go_wp2
            try simp only [Exit.inBlock, Exit.then]
            refine bodyPost_ret (v := .tuple #[.agg #[.int .i64 0, .slice none 0 0], .int .i64 21]) ?_ rfl (lineIs_err hL'.out (by decide) ⟨rfl, ?_⟩)
            · rw [results_cell2 rfl]
              go_simp
            · exact (hBr.out.setCell (by simp; omega) _).setCell (by simp; omega) _
          · clear heq
            go_wp2
            try simp only [Exit.inBlock, Exit.then]
            refine bodyPost_ret (v := .tuple #[.agg #[.int .i64 0, .slice none 0 0], .int .i64 21]) ?_ rfl (lineIs_err hL'.out (by decide) ⟨rfl, ?_⟩)
            · rw [results_cell2 rfl]
              go_simp
            · exact (hBr.out.setCell (by simp; omega) _).setCell (by simp; omega) _
  · have hL : lineE hood born stay (nf 0) (nf 1) (nf 2) (R 0) (R 1) (R 2) = 8 := by unfold lineE; rw [if_neg hE]
    refine Calls.mono ?_ (fun e w' hq => lineIs_err hL (by decide) hq)
    generalize lifeE hood born stay = E at *
    generalize (R 0).length = l0 at *
    generalize (R 1).length = l1 at *
    generalize (R 2).length = l2 at *
    generalize nf 0 = n0 at *
    generalize nf 1 = n1 at *
    generalize nf 2 = n2 at *
    clear hL
    go_enter Tryz.func15, Tryz.ntmps15
    go_wp2_with fail
    refine (K1.out _).mono ?_
    rintro e w1 ⟨rfl, hb⟩
    obtain ⟨hc1, hf1⟩ := bcell hb
    have hz1 : w.heap.size + 1 + 1 + 1 + 1 < w1.heap.size := by have := hb.size; simp at this; omega
    have hB : Hid (Below w.heap.size w w1) := below_then (((((below_new _).alloc (by simp) _).alloc (by simp; omega) _).alloc (by simp; omega) _).alloc (by simp; omega) _) hb (by simp; omega)
    clear hb
    go_wp2
    try simp only [Exit.inBlock, Exit.then]
    refine bodyPost_ret (v := .tuple #[.agg #[.int .i64 0, .slice none 0 0], .int .i64 8]) ?_ rfl ⟨rfl, ?_⟩
    · rw [results_cell2 rfl]
      go_simp
    · exact (hB.out.setCell (by simp; omega) _).setCell (by simp; omega) _
end Go.Proofs.YtcbhbojplcddkaaGreatDoor
