import Derived.Test.YtigghbehnnghnaaPkO
import Derived.Test.YtigghbehnnghnaaPkI
import Derived.Test.YtigghbehnnghnaaPkH
import Derived.Deep.RegionWith
import Derived.Deep.RegionHeld3
import Derived.Deep.CutRange
import Derived.IntWalk
import Derived.StillTailTactics
namespace Go.Proofs.Ytigghbehnnghnaa
open Go.RowKit Go.RowBits
set_option linter.unusedSimpArgs false
set_option linter.unusedVariables false

def QO (w2 : World) (bl : List Bool) (l i : Value) (wx : World) : Prop := ∃ k : Nat, k ≤ bl.length ∧ i = .int .i64 (k : Int) ∧ wx.ownsRow w2.heap.size 4 1 l k ((bl.take k).map Value.bool) ∧ Below w2.heap.size w2 wx
def QI (w3 : World) (len : Nat) (cf : Nat → Nat) (c i : Value) (wx : World) : Prop := ∃ k : Nat, k ≤ len ∧ i = .int .i64 (k : Int) ∧ c = .int .i64 (cf k : Int) ∧ Below w3.heap.size w3 wx
def QC (b : Bool) (wr : World) (q : Value) (wx : World) : Prop := q = .bool b ∧ Below wr.heap.size wr wx
theorem HasB.own {w : World} {base : Nat} {v : Value} {l : List Bool} (h : w.ownsRow base 4 1 v l.length (l.map Value.bool)) : HasB w v l := by
  rcases h.2 with ⟨hv, hn⟩ | ⟨g, cap, cur, hv, hr⟩
  · exact ⟨none, 0, by rw [hv, hn], fun j hj => by omega⟩
  · subst hv
    refine ⟨_, cap, rfl, fun j hj => ⟨g, rfl, ?_⟩⟩
    rw [h.cellAt j (by omega)]
    simp [hj]
theorem info4' : (Try.prog.info? 4).map (fun i => (i.zero, i.size, i.bytes)) = some (some (.bool false), 1, 1) := by kernel_rfl
theorem take_snocB {bl : List Bool} {k : Nat} (h : k < bl.length) : (bl.take (k + 1)).map Value.bool = (bl.take k).map Value.bool ++ [.bool (bl.getD k false)] := by
  rw [List.take_add_one, List.map_append]
  simp [h]
theorem lineIs_yes {w w' : World} {hood : Int} {born stay n g : Nat} {N0 N1 N2 : Int} {a h b : List Nat} {bl : List Bool} {e : Ending} (hL : lineE hood born stay N0 N1 N2 a h b = 0) (hN : N1 = (n : Int)) (hn3 : 3 ≤ n) (hbl : lineB (offs hood) born stay a h b (n - 2) = bl)
    (he : e = .returned (.tuple #[.agg #[.int .i64 (bl.length : Int), .slice (some ⟨g, 0, none⟩) (pack bl).length (pack bl).length], .int .i64 0])) (hg : w.heap.size ≤ g) (hW : WBlk w' g (pack bl)) (hB : Below w.heap.size w w') :
    LineIs w w' hood born stay N0 N1 N2 a h b e := by
  unfold LineIs
  rw [if_pos hL, hN, show ((n : Int) - 2).toNat = n - 2 from by omega, hbl]
  have hl : (bl.length : Int) = (n : Int) - 2 := by rw [← hbl]; unfold lineB; simp; omega
  rw [hl] at he
  exact ⟨g, he, hg, hW, hB⟩
theorem three_cells27 (w : World) (n0 n1 n2 : Int) (v0 v1 v2 : Value) : ∀ j, j < 6 → (w.alloc (.cells #[.int .i64 n0, v0, .int .i64 n1, v1, .int .i64 n2, v2] 27)).cell? ⟨w.heap.size, j, none⟩ = (threeL n0 n1 n2 v0 v1 v2)[j]? := by
  intro j hj
  match j, hj with
  | 0, _ | 1, _ | 2, _ | 3, _ | 4, _ | 5, _ => go_simp; rfl

set_option maxRecDepth 100000 in
set_option maxHeartbeats 16000000 in
theorem rline12 {w : World} {hood : Int} {born stay : Nat} (hb1 : born < 65536) (hs1 : stay < 65536) (nf : Nat → Int) (vf : Nat → Value) (R : Nat → List Nat) (hR : ∀ j, j < 3 → HasW w (vf j) (R j)) (h64 : ∀ j, j < 3 → W64 (R j)) :
    Calls Try.prog 12 #[.agg #[.int .u8 hood, .int .u16 (born : Int), .int .u16 (stay : Int)], .agg #[.int .i64 (nf 0), vf 0], .agg #[.int .i64 (nf 1), vf 1], .agg #[.int .i64 (nf 2), vf 2]] w fun e w' =>
      LineIs w w' hood born stay (nf 0) (nf 1) (nf 2) (R 0) (R 1) (R 2) e := by
  have K1 := Lib.hid (fun W => check39 (h := hood) hb1 hs1 W)
  have hR' := Lib.hid hR
  have h64' := Lib.hid h64
  have hv : ∀ j, j < 3 → ∃ ad cap, vf j = .slice ad (R j).length cap := fun j hj => by
    obtain ⟨ad, cap, e, _⟩ := hR j hj
    exact ⟨ad, cap, e⟩
  obtain ⟨a0, c0, e0⟩ := hv 0 (by omega)
  obtain ⟨a1, c1, e1⟩ := hv 1 (by omega)
  obtain ⟨a2, c2, e2⟩ := hv 2 (by omega)
  have hvf : Hid (∀ j, j < 3 → vf j = .slice (fn3 a0 a1 a2 j) (R j).length (fn3 c0 c1 c2 j)) := fun j hj => by
    match j, hj with
    | 0, _ => exact e0
    | 1, _ => exact e1
    | 2, _ => exact e2
  rw [e0, e1, e2]
  clear hv e0 e1 e2 hR h64
  by_cases hE : lifeE hood born stay = 0
  · rw [hE] at K1
    have hR0 := Lib.hid (fun j hj => (hvf.out j hj) ▸ hR'.out j hj)
    have hL20 : Hid (¬ rowsOk (nf 0) (nf 1) (nf 2) (R 0) (R 1) (R 2) → lineE hood born stay (nf 0) (nf 1) (nf 2) (R 0) (R 1) (R 2) = 20) := fun hn => by unfold lineE; rw [if_pos hE, if_neg hn]
    have hL21 : Hid (rowsOk (nf 0) (nf 1) (nf 2) (R 0) (R 1) (R 2) → ¬ (nf 0 = nf 1 ∧ nf 2 = nf 1) → lineE hood born stay (nf 0) (nf 1) (nf 2) (R 0) (R 1) (R 2) = 21) := fun hn h2 => by unfold lineE; rw [if_pos hE, if_pos hn, if_neg h2]
    have hL0 : Hid (rowsOk (nf 0) (nf 1) (nf 2) (R 0) (R 1) (R 2) → (nf 0 = nf 1 ∧ nf 2 = nf 1) → lineE hood born stay (nf 0) (nf 1) (nf 2) (R 0) (R 1) (R 2) = 0) := fun hn h2 => by unfold lineE; rw [if_pos hE, if_pos hn, if_pos h2]
    have hE' := Lib.hid hE
    clear hE
    go_enter Try.func12, Try.ntmps12
    go_wp2_with fail
    refine (K1.out _).mono ?_
    rintro e w1 ⟨rfl, hb⟩
    obtain ⟨hc1, hf1⟩ := bcell hb
    have hz1 : w.heap.size + 1 + 1 + 1 + 1 < w1.heap.size := by have := hb.size; simp at this; omega
    have hB : Hid (Below w.heap.size w w1) := below_then (((((below_new _).alloc (by simp) _).alloc (by simp; omega) _).alloc (by simp; omega) _).alloc (by simp; omega) _) hb (by simp; omega)
    clear hb
    have x0 : w1.cell? ⟨w.heap.size, 0, none⟩ = some (.int .u8 hood) := by go_simp
    have x1 : w1.cell? ⟨w.heap.size, 1, none⟩ = some (.int .u16 (born : Int)) := by go_simp
    have x2 : w1.cell? ⟨w.heap.size, 2, none⟩ = some (.int .u16 (stay : Int)) := by go_simp
    have n0 : w1.cell? ⟨w.heap.size + 1, 0, none⟩ = some (.int .i64 (nf 0)) := by go_simp
    have n1 : w1.cell? ⟨w.heap.size + 1 + 1, 0, none⟩ = some (.int .i64 (nf 1)) := by go_simp
    have n2 : w1.cell? ⟨w.heap.size + 1 + 1 + 1, 0, none⟩ = some (.int .i64 (nf 2)) := by go_simp
    have v1 : w1.cell? ⟨w.heap.size + 1 + 1, 1, none⟩ = some (.slice a1 (R 1).length c1) := by go_simp
    have r0 : w1.cell? ⟨w.heap.size + 1 + 1 + 1 + 1, 0, none⟩ = some (.int .i64 0) := by go_simp
    have r1 : w1.cell? ⟨w.heap.size + 1 + 1 + 1 + 1, 1, none⟩ = some (.slice none 0 0) := by go_simp
    have rf : ∀ o, w1.frozen? ⟨w.heap.size + 1 + 1 + 1 + 1, o, none⟩ = false := fun o => by go_simp
    have hq := Lib.hid (fun (b o : Nat) (u : Value) (h : w1.cell? ⟨b, o, none⟩ = some u) => cell_kept (below_new (.cells #[.int .i64 (nf 0), .slice a0 (R 0).length c0, .int .i64 (nf 1), .slice a1 (R 1).length c1, .int .i64 (nf 2), .slice a2 (R 2).length c2] 27)) h)
    have X0 := Lib.hid (hq.out _ _ _ x0)
    have X1 := Lib.hid (hq.out _ _ _ x1)
    have X2 := Lib.hid (hq.out _ _ _ x2)
    have N0 := Lib.hid (hq.out _ _ _ n0)
    have N1 := Lib.hid (hq.out _ _ _ n1)
    have N2 := Lib.hid (hq.out _ _ _ n2)
    have V1 := Lib.hid (hq.out _ _ _ v1)
    have R0 := Lib.hid (hq.out _ _ _ r0)
    have R1 := Lib.hid (hq.out _ _ _ r1)
    have RF : Hid (∀ o, (w1.alloc (.cells #[.int .i64 (nf 0), .slice a0 (R 0).length c0, .int .i64 (nf 1), .slice a1 (R 1).length c1, .int .i64 (nf 2), .slice a2 (R 2).length c2] 27)).frozen? ⟨w.heap.size + 1 + 1 + 1 + 1, o, none⟩ = false) := fun o => by
      rw [(below_new _).frozen (p := ⟨w.heap.size + 1 + 1 + 1 + 1, o, none⟩) (by simpa using hz1)]
      exact rf o
    have T := Lib.hid (three_cells27 w1 (nf 0) (nf 1) (nf 2) (.slice a0 (R 0).length c0) (.slice a1 (R 1).length c1) (.slice a2 (R 2).length c2))
    have HB0 := Lib.hid (hB.out.alloc (by have := hB.out.size; omega) (.cells #[.int .i64 (nf 0), .slice a0 (R 0).length c0, .int .i64 (nf 1), .slice a1 (R 1).length c1, .int .i64 (nf 2), .slice a2 (R 2).length c2] 27))
    clear hq
    go_wp2
    clear x0 x1 x2 n0 n1 n2 v1 r0 r1 rf hc1 hf1
    have hs0 : (w1.alloc (.cells #[.int .i64 (nf 0), .slice a0 (R 0).length c0, .int .i64 (nf 1), .slice a1 (R 1).length c1, .int .i64 (nf 2), .slice a2 (R 2).length c2] 27)).heap.size = w1.heap.size + 1 := by simp
    generalize (w1.alloc (.cells #[.int .i64 (nf 0), .slice a0 (R 0).length c0, .int .i64 (nf 1), .slice a1 (R 1).length c1, .int .i64 (nf 2), .slice a2 (R 2).length c2] 27)) = W0 at *
    go_loopw [11] (fun i wr => PLr W0 nf R i wr) (fun i _ => 3 - (intOf i).toNat)
    case atStart => exact ⟨0, by omega, by go_num, fun j hj => by omega, Below.refl _ _⟩
    case round =>
      obtain ⟨y, hy, rfl, hok, hB2⟩ := hrel
      have hok' := Lib.hid hok
      have hB2' := Lib.hid hB2
      have hzr : W0.heap.size ≤ wr.heap.size := hB2.size
      have rr0 := cell_kept hB2 R0.out
      have rr1 := cell_kept hB2 R1.out
      have rrf : ∀ o, wr.frozen? ⟨w.heap.size + 1 + 1 + 1 + 1, o, none⟩ = false := fun o => by
        rw [hB2.frozen (p := ⟨w.heap.size + 1 + 1 + 1 + 1, o, none⟩) (by simp; omega)]
        exact RF.out o
      have hBr := Lib.hid (HB0.out.trans (hB2.mono (by have := hB.out.size; omega)))
      clear hok hB2
      by_cases hlt : y < 3
      · have tN : wr.cell? ⟨w1.heap.size, y * 2, none⟩ = some (.int .i64 (nf y)) := cell_kept hB2'.out (by
          rw [T.out (y * 2) (by omega)]
          match y, hlt with
          | 0, _ | 1, _ | 2, _ => rfl)
        have tV : wr.cell? ⟨w1.heap.size, y * 2 + 1, none⟩ = some (.slice (fn3 a0 a1 a2 y) (R y).length (fn3 c0 c1 c2 y)) := cell_kept hB2'.out (by
          rw [T.out (y * 2 + 1) (by omega)]
          match y, hlt with
          | 0, _ | 1, _ | 2, _ => rfl)
        have hW := Lib.hid ((hR0.out y hlt).keptB hBr.out (Nat.le_refl _))
        have KV0 := fun W (hw : HasW W (.slice (fn3 a0 a1 a2 y) (R y).length (fn3 c0 c1 c2 y)) (R y)) => valid40 (nf y) hw (h64'.out y hlt)
        have KV := Lib.hid KV0
        have hno : Hid (¬ (RowOk (nf y) (R y) ∧ 3 ≤ nf y) → ¬ rowsOk (nf 0) (nf 1) (nf 2) (R 0) (R 1) (R 2)) := fun hn hr => hn (by
          match y, hlt with
          | 0, _ => exact hr.1
          | 1, _ => exact hr.2.1
          | 2, _ => exact hr.2.2)
        clear KV0
        cases hb : rowOk (nf y) (R y) with
        | false =>
          have KV1 := fun W hw => KV.out W hw
          rw [hb] at KV1
          have KV2 := Lib.hid KV1
          have hL := hL20.out (hno.out (fun e => by have := rowOk_yes e.1; rw [hb] at this; cases this))
          have hL' := Lib.hid hL
          clear KV1 hL KV
          go_wp2_with fail
          refine (KV2.out _ hW.out).mono ?_
          rintro e w3 ⟨rfl, hb3⟩
          have hz3 : wr.heap.size ≤ w3.heap.size := hb3.size
          have s0 : w3.cell? ⟨w.heap.size + 1 + 1 + 1 + 1, 0, none⟩ = some (.int .i64 0) := cell_kept hb3 rr0
          have s1 : w3.cell? ⟨w.heap.size + 1 + 1 + 1 + 1, 1, none⟩ = some (.slice none 0 0) := cell_kept hb3 rr1
          have sf : ∀ o, w3.frozen? ⟨w.heap.size + 1 + 1 + 1 + 1, o, none⟩ = false := fun o => by
            rw [hb3.frozen (p := ⟨w.heap.size + 1 + 1 + 1 + 1, o, none⟩) (by simp; omega)]
            exact rrf o
          have hB3 := Lib.hid (below_then hBr.out hb3 hBr.out.size)
          clear hb3 rr0 rr1 rrf
          go_wp2
          try simp only [Exit.inBlock, Exit.then]
          refine bodyPost_ret (v := .tuple #[.agg #[.int .i64 0, .slice none 0 0], .int .i64 20]) ?_ rfl (lineIs_err hL'.out (by decide) ⟨rfl, ?_⟩)
          · rw [results_cell2 rfl]
            go_simp
          · exact (hB3.out.setCell (by simp; omega) _).setCell (by simp; omega) _
        | true =>
          have KV1 := fun W hw => KV.out W hw
          rw [hb] at KV1
          have KV2 := Lib.hid KV1
          have hro := Lib.hid (rowOk_iff.1 hb)
          clear KV1 KV
          go_wp2_with fail
          refine (KV2.out _ hW.out).mono ?_
          rintro e w3 ⟨rfl, hb3⟩
          have hz3 : wr.heap.size ≤ w3.heap.size := hb3.size
          have s0 : w3.cell? ⟨w.heap.size + 1 + 1 + 1 + 1, 0, none⟩ = some (.int .i64 0) := cell_kept hb3 rr0
          have s1 : w3.cell? ⟨w.heap.size + 1 + 1 + 1 + 1, 1, none⟩ = some (.slice none 0 0) := cell_kept hb3 rr1
          have sf : ∀ o, w3.frozen? ⟨w.heap.size + 1 + 1 + 1 + 1, o, none⟩ = false := fun o => by
            rw [hb3.frozen (p := ⟨w.heap.size + 1 + 1 + 1 + 1, o, none⟩) (by simp; omega)]
            exact rrf o
          have b0 := cell_kept hb3 tN
          have hB3 := Lib.hid (below_then hBr.out hb3 hBr.out.size)
          have hB4 := Lib.hid (below_then hB2'.out hb3 hzr)
          clear hb3 rr0 rr1 rrf
          by_cases h3 : nf y < 3
          · have hL := hL20.out (hno.out (fun e => by have := e.2; omega))
            have hL' := Lib.hid hL
            clear hL
            go_wp2
            try simp only [Exit.inBlock, Exit.then]
            refine bodyPost_ret (v := .tuple #[.agg #[.int .i64 0, .slice none 0 0], .int .i64 20]) ?_ rfl (lineIs_err hL'.out (by decide) ⟨rfl, ?_⟩)
            · rw [results_cell2 rfl]
              go_simp
            · exact (hB3.out.setCell (by simp; omega) _).setCell (by simp; omega) _
          · have hy1 : Hid (∀ j, j < y + 1 → RowOk (nf j) (R j) ∧ 3 ≤ nf j) := fun j hj => by
              by_cases e : j = y
              · rw [e]; exact ⟨hro.out, by omega⟩
              · exact hok'.out j (by omega)
            go_wp2
            exact ⟨⟨y + 1, by omega, by go_num, hy1.out, hB4.out⟩, by simp [intOf]; omega⟩
      · have hy3 : y = 3 := by omega
        have hrows : Hid (rowsOk (nf 0) (nf 1) (nf 2) (R 0) (R 1) (R 2)) := ⟨hok'.out 0 (by omega), hok'.out 1 (by omega), hok'.out 2 (by omega)⟩
        have y0 := cell_kept hB2'.out N0.out
        have y1 := cell_kept hB2'.out N1.out
        have y2 := cell_kept hB2'.out N2.out
        by_cases heq : nf 0 = nf 1 ∧ nf 2 = nf 1
        · have hL := Lib.hid (hL0.out hrows.out heq)
          have RRF := Lib.hid rrf
          clear rrf
          obtain ⟨i0, hi, hz0, hz1, hz2⟩ := info_parts info4'
          have hi' := Lib.hid hi
          clear hi
          obtain ⟨n, hn⟩ : ∃ n : Nat, nf 1 = (n : Int) := ⟨(nf 1).toNat, by have := hrows.out.2.1.1.1; omega⟩
          have hr := hrows.out
          have hn3 : 3 ≤ n := by have := hr.2.1.2; omega
          have hn65 : n ≤ 65538 := by have := hr.2.1.1.2.1; omega
          have g0 : RowGood n (R 0) := by have := hr.1.1.2.2; rw [heq.1, hn, Int.toNat_natCast] at this; exact this
          have g1 : RowGood n (R 1) := by have := hr.2.1.1.2.2; rw [hn, Int.toNat_natCast] at this; exact this
          have g2 : RowGood n (R 2) := by have := hr.2.2.1.2.2; rw [heq.2, hn, Int.toNat_natCast] at this; exact this
          have hgd := lifeE_good hE'.out
          have hnf : ∀ y, y < 3 → nf y = (n : Int) := fun y hy => by
            match y, hy with
            | 0, _ => rw [heq.1, hn]
            | 1, _ => exact hn
            | 2, _ => rw [heq.2, hn]
          have hgR : Hid (∀ y, y < 3 → RowGood n (R y)) := fun y hy => by
            match y, hy with
            | 0, _ => exact g0
            | 1, _ => exact g1
            | 2, _ => exact g2
          have hh := Lib.hid hgd.1
          have hrule := Lib.hid hgd.2
          have hnear := Lib.hid (offs_near hgd.1)
          have hr64 : Hid (Rows64 (R 0) (R 1) (R 2)) := ⟨h64'.out 0 (by omega), h64'.out 1 (by omega), h64'.out 2 (by omega)⟩
          have KO1 := fun W => roffsets_any hood W
          rw [hoodErr_good hgd.1] at KO1
          have KO := Lib.hid KO1
          have hnn := Lib.hid hn
          have z0 := cell_kept hB2'.out X0.out
          have z1 := cell_kept hB2'.out X1.out
          have z2 := cell_kept hB2'.out X2.out
          have v1 := cell_kept hB2'.out V1.out
          have tN : Hid (∀ y, y < 3 → wr.cell? ⟨w1.heap.size, y * 2, none⟩ = some (.int .i64 (n : Int))) := fun y hlt => cell_kept hB2'.out (by
            rw [T.out (y * 2) (by omega), ← hnf y hlt]
            match y, hlt with
            | 0, _ | 1, _ | 2, _ => rfl)
          have tV : Hid (∀ y, y < 3 → wr.cell? ⟨w1.heap.size, y * 2 + 1, none⟩ = some (.slice (fn3 a0 a1 a2 y) (R y).length (fn3 c0 c1 c2 y))) := fun y hlt => cell_kept hB2'.out (by
            rw [T.out (y * 2 + 1) (by omega)]
            match y, hlt with
            | 0, _ | 1, _ | 2, _ => rfl)
          have hWr : Hid (∀ y, y < 3 → HasW wr (.slice (fn3 a0 a1 a2 y) (R y).length (fn3 c0 c1 c2 y)) (R y)) := fun y hlt => (hR0.out y hlt).keptB hBr.out (Nat.le_refl _)
          have hTl : w1.heap.size < wr.heap.size := by omega
          rw [heq.1, hn] at y0
          rw [hn] at y1
          rw [heq.2, hn] at y2
          obtain ⟨bl, hbl⟩ : ∃ bl, lineB (offs hood) born stay (R 0) (R 1) (R 2) (n - 2) = bl := ⟨_, rfl⟩
          have hbll : Hid (bl.length = n - 2) := by show _ = _; rw [← hbl]; unfold lineB; simp
          have hblg : Hid (∀ k, k < n - 2 → bl.getD k false = lineBit born stay (cntTo (offs hood) (R 0) (R 1) (R 2) k (offs hood).length) (bitw (R 1) (k + 1))) := fun k hk => by
            rw [← hbl]; unfold lineB; simp [hk]
          have hbl' := Lib.hid hbl
          have hp8 := offs_len hood
          clear heq hr hn g0 g1 g2 hgd KO1 hbl hnf
          go_wp2_with fail
          refine (KO.out _).mono ?_
          rintro e w2 ⟨vl, rfl, ol, hb3⟩
          have pts := Lib.hid (HasPts.own ol)
          obtain ⟨adl, capl, rfl⟩ := own_shape ol
          have hz3 : wr.heap.size ≤ w2.heap.size := hb3.size
          have hb3' := Lib.hid hb3
          have hB3 := Lib.hid (below_then hBr.out hb3 hBr.out.size)
          have q0 := cell_kept hb3 z0
          have q1 := cell_kept hb3 z1
          have q2 := cell_kept hb3 z2
          have qn := cell_kept hb3 y1
          have qv := cell_kept hb3 v1
          have qr0 := cell_kept hb3 rr0
          have qr1 := cell_kept hb3 rr1
          clear hb3 ol z0 z1 z2 y0 y1 y2 v1 rr0 rr1
          have tN2 : Hid (∀ y, y < 3 → w2.cell? ⟨w1.heap.size, y * 2, none⟩ = some (.int .i64 (n : Int))) := fun y h => cell_kept hb3'.out (tN.out y h)
          have tV2 : Hid (∀ y, y < 3 → w2.cell? ⟨w1.heap.size, y * 2 + 1, none⟩ = some (.slice (fn3 a0 a1 a2 y) (R y).length (fn3 c0 c1 c2 y))) := fun y h => cell_kept hb3'.out (tV.out y h)
          have hW2 : Hid (∀ y, y < 3 → HasW w2 (.slice (fn3 a0 a1 a2 y) (R y).length (fn3 c0 c1 c2 y)) (R y)) := fun y h => (hWr.out y h).kept hb3'.out
          have Q1 := Lib.hid q1
          have Q2 := Lib.hid q2
          have QN := Lib.hid qn
          have QV := Lib.hid qv
          have Q0 := Lib.hid q0
          have hTl2 : w1.heap.size < w2.heap.size := by omega
          clear tN tV hWr
          go_wp2
          clear q0 q1 q2 qn qv
          go_loopw [14, 15] (fun l i wx => QO w2 bl l i wx) (fun _ i _ => n - 2 - (intOf i).toNat)
          case atStart => exact ⟨0, by omega, by go_num, World.ownsRow_nil _ _ _ _, Below.refl _ _⟩
          case round =>
            obtain ⟨k, hk, rfl, hown, hB4⟩ := hrel
            rw [hbll.out] at hk
            have hO := Lib.hid hown
            have hB4' := Lib.hid hB4
            have u0 := cell_kept hB4 Q0.out
            have u1 := cell_kept hB4 Q1.out
            have u2 := cell_kept hB4 Q2.out
            have un := cell_kept hB4 QN.out
            have uv := cell_kept hB4 QV.out
            have hz4 : w2.heap.size ≤ wr.heap.size := hB4.size
            clear hown hB4
            by_cases hlt : k < n - 2
            · have hkI : (k : Int) < (n : Int) - 2 := by omega
              rename World => wk
              go_wp2
              try rw [show decide ((k : Int) < (n : Int) - 2) = true from decide_eq_true (by omega)]
              go_loopw [16, 17] (fun c i wx => QI wk (offs hood).length (cntTo (offs hood) (R 0) (R 1) (R 2) k) c i wx) (fun _ i _ => (offs hood).length - (intOf i).toNat)
              case atStart => exact ⟨0, by omega, by go_num, rfl, Below.refl _ _⟩
              case round =>
                obtain ⟨kk, hkk, rfl, rfl, hB5⟩ := hrel
                have hB5' := Lib.hid hB5
                have hz5 : wk.heap.size ≤ wr.heap.size := hB5.size
                have hB6 := Lib.hid (hB4'.out.trans (hB5.mono hz4))
                clear hB5
                have hcl := cntTo_le (offs hood) (R 0) (R 1) (R 2) k kk
                by_cases hltk : kk < (offs hood).length
                · obtain ⟨x1, x2, x3, x4⟩ := hnear.out kk hltk
                  obtain ⟨_, _, hpv, hpc⟩ := (pts.out).kept hB6.out
                  obtain ⟨gp, hgp, p1, p2⟩ := hpc kk hltk
                  cases hpv
                  subst hgp
                  obtain ⟨yy, hyy⟩ : ∃ yy, yy = (((offs hood).getD kk (0, 0)).2 + 1).toNat := ⟨_, rfl⟩
                  obtain ⟨ii, hii⟩ : ∃ ii, ii = ((k : Int) + 1 + ((offs hood).getD kk (0, 0)).1).toNat := ⟨_, rfl⟩
                  have hy3 : yy < 3 := by omega
                  have eN := cell_kept hB6.out (tN2.out yy hy3)
                  have eV := cell_kept hB6.out (tV2.out yy hy3)
                  have hWy := Lib.hid ((hW2.out yy hy3).kept hB6.out)
                  have hrow : R yy = Go.RowBits.rowAt (R 0) (R 1) (R 2) ((offs hood).getD kk (0, 0)).2 := by
                    rw [← rows3_at (R 0) (R 1) (R 2) x3 x4, ← hyy]
                    match yy, hy3 with
                    | 0, _ | 1, _ | 2, _ => rfl
                  have KG0 : ∀ W, HasW W (.slice (fn3 a0 a1 a2 yy) (R yy).length (fn3 c0 c1 c2 yy)) (R yy) → Calls Try.prog 42 #[.agg #[.int .i64 (n : Int), .slice (fn3 a0 a1 a2 yy) (R yy).length (fn3 c0 c1 c2 yy)], .int .i64 ((ii : Nat) : Int)] W fun e w' => e = .returned (.bool (bitw (R yy) ii)) ∧ Below W.heap.size W w' :=
                    fun W hw => get42 hn65 (hgR.out yy hy3) hw (by omega)
                  have hcn : Hid (cntTo (offs hood) (R 0) (R 1) (R 2) k (kk + 1) = cntTo (offs hood) (R 0) (R 1) (R 2) k kk + (bitw (R yy) ii).toNat) := by
                    show _ = _
                    rw [hrow, hii]
                    rfl
                  rw [show ((ii : Nat) : Int) = (k : Int) + 1 + ((offs hood).getD kk (0, 0)).1 from by omega] at KG0
                  have KG := Lib.hid KG0
                  have hcn' := Lib.hid hcn.out
                  have hyy' := Lib.hid hyy
                  have eN' : wr.cell? ⟨w1.heap.size, (((offs hood).getD kk (0, 0)).2 + 1).toNat * 2, none⟩ = some (.int .i64 (n : Int)) := by rw [← hyy]; exact eN
                  have eV' : wr.cell? ⟨w1.heap.size, (((offs hood).getD kk (0, 0)).2 + 1).toNat * 2 + 1, none⟩ = some (.slice (fn3 a0 a1 a2 yy) (R yy).length (fn3 c0 c1 c2 yy)) := by rw [← hyy]; exact eV
                  clear eN eV
                  clear hrow KG0 hii hcn hyy hyy'
                  generalize fn3 a0 a1 a2 yy = ay at *
                  generalize (R yy).length = ly at *
                  generalize fn3 c0 c1 c2 yy = cy at *
                  generalize bitw (R yy) ii = bt at *
                  generalize ((offs hood).getD kk (0, 0)).1 = X at *
                  generalize ((offs hood).getD kk (0, 0)).2 = Y at *
                  generalize cntTo (offs hood) (R 0) (R 1) (R 2) k kk = cn at *
                  have e1 : 0 ≤ Y + 1 := by omega
                  have e2 : Y + 1 < 3 := by omega
                  have e3 : (k : Int) < 65536 := by omega
                  have q1 : IntKind.i64.wrap (Y + 1) = Y + 1 := IntWalk.i64_in _ (by omega)
                  have q2 : IntKind.i64.wrap ((k : Int) + 1) = (k : Int) + 1 := IntWalk.i64_in _ (by omega)
                  have q3 : IntKind.i64.wrap ((k : Int) + 1 + X) = (k : Int) + 1 + X := IntWalk.i64_in _ (by omega)
                  go_upto_region 20 with fail
                  go_still_tail 17, (by kernel_rfl)
                  have hbd : Below wr.heap.size wr { heap := wr.heap, tape := wr.tape, drawn := wr.drawn + 1, os := wr.os, output := wr.output } := (Below.refl _ _).drew
                  have hbD := Lib.hid hbd
                  clear hbd
                  go_wp2_with fail
                  refine (KG.out _ (hWy.out.kept hbD.out)).mono ?_
                  rintro e w6 ⟨rfl, hb⟩
                  have hR5 := Lib.hid (below_then (below_then hB5'.out hbD.out hz5) hb hz5)
                  clear hb
                  cases bt with
                  | true =>
                    go_wp2
                    exact ⟨⟨kk + 1, by omega, by go_num, by rw [hcn'.out]; simp, hR5.out⟩, by simp [intOf]; omega⟩
                  | false =>
                    go_wp2
                    exact ⟨⟨kk + 1, by omega, by go_num, by rw [hcn'.out]; simp, hR5.out⟩, by simp [intOf]; omega⟩
                · obtain rfl : kk = (offs hood).length := by omega
                  clear hltk
                  have t0 := cell_kept hB5'.out u0
                  have t1 := cell_kept hB5'.out u1
                  have t2 := cell_kept hB5'.out u2
                  have tn := cell_kept hB5'.out un
                  have tv := cell_kept hB5'.out uv
                  have hO5 := Lib.hid (own_below hO.out hB5'.out)
                  have hW1 := Lib.hid ((hW2.out 1 (by omega)).kept hB6.out)
                  have KH0 : ∀ W, HasW W (.slice a1 (R 1).length c1) (R 1) → Calls Try.prog 42 #[.agg #[.int .i64 (n : Int), .slice a1 (R 1).length c1], .int .i64 ((k : Int) + 1)] W fun e w' => e = .returned (.bool (bitw (R 1) (k + 1))) ∧ Below W.heap.size W w' :=
                    fun W hw => by
                      have := get42 (i := k + 1) hn65 (hgR.out 1 (by omega)) hw (by omega)
                      rw [show ((k + 1 : Nat) : Int) = (k : Int) + 1 from by omega] at this
                      exact this
                  have KH := Lib.hid KH0
                  have KN0 : ∀ (hb : Bool) W, Calls Try.prog 43 #[.agg #[.int .u8 hood, .int .u16 (born : Int), .int .u16 (stay : Int)], .int .u8 (if hb then 1 else 0), .int .i64 (cntTo (offs hood) (R 0) (R 1) (R 2) k (offs hood).length : Int)] W fun e w' =>
                    e = .returned (.tuple #[.int .u8 (if lineBit born stay (cntTo (offs hood) (R 0) (R 1) (R 2) k (offs hood).length) hb then 1 else 0), .int .i64 0]) ∧ Below W.heap.size W w' :=
                    fun hb W => next43 hb hh.out hrule.out hb1 hs1 hcl W
                  have KN := Lib.hid KN0
                  have hgd := hblg.out k hlt
                  have hgd' := Lib.hid hgd
                  have hbl2 := hbll.out
                  have hts := Lib.hid (take_snocB (bl := bl) (k := k) (by omega))
                  clear KH0 KN0 hgd u0 u1 u2 un uv hbl2
                  generalize bitw (R 1) (k + 1) = hbit at *
                  generalize cntTo (offs hood) (R 0) (R 1) (R 2) k (offs hood).length = cn at *
                  cases hbit
                  all_goals
                    go_wp2_with fail
                    refine (KH.out _ hW1.out).mono ?_
                    rintro e w6 ⟨rfl, hb⟩
                    have p0 := cell_kept hb t0
                    have p1 := cell_kept hb t1
                    have p2 := cell_kept hb t2
                    have hB6 := Lib.hid (below_then hB6.out hb hB6.out.size)
                    have hO6 := Lib.hid (own_below hO5.out hb)
                    clear hb t0 t1 t2 tn tv
                  · have KN1 := KN.out false
                    rw [show (.int .u8 (if false = true then 1 else 0) : Value) = .int .u8 0 from rfl] at KN1
                    have KN2 := Lib.hid KN1
                    clear KN1
                    generalize hlb : lineBit born stay cn false = lb at *
                    cases lb
                    all_goals
                      go_wp2_with fail
                      refine (KN2.out _).mono ?_
                      rintro e w7 ⟨rfl, hb⟩
                      have hB7 := Lib.hid (below_then hB6.out hb hB6.out.size)
                      have hO7 := Lib.hid (own_below hO6.out hb)
                      clear hb p0 p1 p2
                    · go_wp2_with (first
                        | (at_builtin; refine wpList_append_own _ rfl _ _ 91 rfl w2.heap.size 4 i0 _ 1 1 Try.underlying91 hi'.out hz0 hz1 hz2 rfl (by decide) _ _ _ rfl (hO7.out.alloc _) ⟨w7.heap.size, 0, none⟩ 1 1 [.bool false] rfl rfl ?c1 ?c2 ?c3 ?c4 ?c5 ?_)
                        | go_in)
                      case c1 =>
                        intro j u hj
                        match j, hj with
                        | 0, hj => simp at hj; subst hj; simp [Addr.add]
                      case c2 => intro u hu; simp at hu; subst hu; rfl
                      case c3 => unfold maxLen; omega
                      case c4 => omega
                      case c5 => have := hB7.out.size; simp; omega
                      intro v' w8 hown' hgrow _
                      have R : QO w2 bl v' (.int .i64 ((k : Int) + 1)) w8 := by
                        refine ⟨k + 1, by rw [hbll.out]; omega, by go_num, by rw [hts.out, hgd'.out, List.map_take]; exact hown', ?_⟩
                        exact Below.grown (hB7.out.alloc hB7.out.size _) hgrow (by have := hB7.out.size; simp; omega) (fun b e => by have := hO7.out.lt b e; omega)
                      have R' := Lib.hid R
                      clear hown' hgrow R hlb
                      go_wp2
                      exact ⟨R'.out, by simp [intOf]; omega⟩
                    · go_wp2_with (first
                        | (at_builtin; refine wpList_append_own _ rfl _ _ 91 rfl w2.heap.size 4 i0 _ 1 1 Try.underlying91 hi'.out hz0 hz1 hz2 rfl (by decide) _ _ _ rfl (hO7.out.alloc _) ⟨w7.heap.size, 0, none⟩ 1 1 [.bool true] rfl rfl ?c1 ?c2 ?c3 ?c4 ?c5 ?_)
                        | go_in)
                      case c1 =>
                        intro j u hj
                        match j, hj with
                        | 0, hj => simp at hj; subst hj; simp [Addr.add]
                      case c2 => intro u hu; simp at hu; subst hu; rfl
                      case c3 => unfold maxLen; omega
                      case c4 => omega
                      case c5 => have := hB7.out.size; simp; omega
                      intro v' w8 hown' hgrow _
                      have R : QO w2 bl v' (.int .i64 ((k : Int) + 1)) w8 := by
                        refine ⟨k + 1, by rw [hbll.out]; omega, by go_num, by rw [hts.out, hgd'.out, List.map_take]; exact hown', ?_⟩
                        exact Below.grown (hB7.out.alloc hB7.out.size _) hgrow (by have := hB7.out.size; simp; omega) (fun b e => by have := hO7.out.lt b e; omega)
                      have R' := Lib.hid R
                      clear hown' hgrow R hlb
                      go_wp2
                      exact ⟨R'.out, by simp [intOf]; omega⟩
                  · have KN1 := KN.out true
                    rw [show (.int .u8 (if true = true then 1 else 0) : Value) = .int .u8 1 from rfl] at KN1
                    have KN2 := Lib.hid KN1
                    clear KN1
                    generalize hlb : lineBit born stay cn true = lb at *
                    cases lb
                    all_goals
                      go_wp2_with fail
                      refine (KN2.out _).mono ?_
                      rintro e w7 ⟨rfl, hb⟩
                      have hB7 := Lib.hid (below_then hB6.out hb hB6.out.size)
                      have hO7 := Lib.hid (own_below hO6.out hb)
                      clear hb p0 p1 p2
                    · go_wp2_with (first
                        | (at_builtin; refine wpList_append_own _ rfl _ _ 91 rfl w2.heap.size 4 i0 _ 1 1 Try.underlying91 hi'.out hz0 hz1 hz2 rfl (by decide) _ _ _ rfl (hO7.out.alloc _) ⟨w7.heap.size, 0, none⟩ 1 1 [.bool false] rfl rfl ?c1 ?c2 ?c3 ?c4 ?c5 ?_)
                        | go_in)
                      case c1 =>
                        intro j u hj
                        match j, hj with
                        | 0, hj => simp at hj; subst hj; simp [Addr.add]
                      case c2 => intro u hu; simp at hu; subst hu; rfl
                      case c3 => unfold maxLen; omega
                      case c4 => omega
                      case c5 => have := hB7.out.size; simp; omega
                      intro v' w8 hown' hgrow _
                      have R : QO w2 bl v' (.int .i64 ((k : Int) + 1)) w8 := by
                        refine ⟨k + 1, by rw [hbll.out]; omega, by go_num, by rw [hts.out, hgd'.out, List.map_take]; exact hown', ?_⟩
                        exact Below.grown (hB7.out.alloc hB7.out.size _) hgrow (by have := hB7.out.size; simp; omega) (fun b e => by have := hO7.out.lt b e; omega)
                      have R' := Lib.hid R
                      clear hown' hgrow R hlb
                      go_wp2
                      exact ⟨R'.out, by simp [intOf]; omega⟩
                    · go_wp2_with (first
                        | (at_builtin; refine wpList_append_own _ rfl _ _ 91 rfl w2.heap.size 4 i0 _ 1 1 Try.underlying91 hi'.out hz0 hz1 hz2 rfl (by decide) _ _ _ rfl (hO7.out.alloc _) ⟨w7.heap.size, 0, none⟩ 1 1 [.bool true] rfl rfl ?c1 ?c2 ?c3 ?c4 ?c5 ?_)
                        | go_in)
                      case c1 =>
                        intro j u hj
                        match j, hj with
                        | 0, hj => simp at hj; subst hj; simp [Addr.add]
                      case c2 => intro u hu; simp at hu; subst hu; rfl
                      case c3 => unfold maxLen; omega
                      case c4 => omega
                      case c5 => have := hB7.out.size; simp; omega
                      intro v' w8 hown' hgrow _
                      have R : QO w2 bl v' (.int .i64 ((k : Int) + 1)) w8 := by
                        refine ⟨k + 1, by rw [hbll.out]; omega, by go_num, by rw [hts.out, hgd'.out, List.map_take]; exact hown', ?_⟩
                        exact Below.grown (hB7.out.alloc hB7.out.size _) hgrow (by have := hB7.out.size; simp; omega) (fun b e => by have := hO7.out.lt b e; omega)
                      have R' := Lib.hid R
                      clear hown' hgrow R hlb
                      go_wp2
                      exact ⟨R'.out, by simp [intOf]; omega⟩
            · have hkn : k = n - 2 := by omega
              have hkI : ¬ ((k : Int) < (n : Int) - 2) := by omega
              clear hlt u0 u1 u2 uv
              have hB7 := Lib.hid (below_then hB3.out (hB4'.out) hB3.out.size)
              have v0 := cell_kept hB4'.out qr0
              have v1 := cell_kept hB4'.out qr1
              have vf : ∀ o, wr.frozen? ⟨w.heap.size + 1 + 1 + 1 + 1, o, none⟩ = false := fun o => by
                rw [hB4'.out.frozen (p := ⟨w.heap.size + 1 + 1 + 1 + 1, o, none⟩) (by simp; omega), hb3'.out.frozen (p := ⟨w.heap.size + 1 + 1 + 1 + 1, o, none⟩) (by simp; omega)]
                exact RRF.out o
              have hbl2 := hbll.out
              have hO8 := hO.out
              rw [hkn, ← hbl2, List.take_length] at hO8
              have KR := Lib.hid (row44 (bs := bl) (by omega) (HasB.own hO8))
              have hL' := Lib.hid (fun g w' e he hg hW hB => lineIs_yes (w := w) (g := g) (w' := w') (e := e) hL.out hnn.out hn3 hbl'.out he hg hW hB)
              have hO9 := own_shape hO8
              obtain ⟨adr, capr, rfl⟩ := hO9
              clear hO8
              have hkn' := Lib.hid hkn
              clear hkn hbl2
              go_wp2_with fail
              rw [hkn'.out, ← hbll.out]
              refine (KR.out).mono ?_
              rintro e w9 ⟨g9, rfl, hg9, hW9, hb⟩
              have hB8 := Lib.hid (below_then hB7.out hb hB7.out.size)
              have y0 := cell_kept hb v0
              have y1 := cell_kept hb v1
              have yf : ∀ o, w9.frozen? ⟨w.heap.size + 1 + 1 + 1 + 1, o, none⟩ = false := fun o => by
                rw [hb.frozen (p := ⟨w.heap.size + 1 + 1 + 1 + 1, o, none⟩) (by simp; omega)]
                exact vf o
              have hz9 : wr.heap.size ≤ w9.heap.size := hb.size
              have hW9' := Lib.hid hW9
              clear hb hW9 v0 v1 vf
              have hgn : g9 ≠ w.heap.size + 1 + 1 + 1 + 1 := by omega
              generalize hpl : (pack bl).length = pl at *
              have hpl' := Lib.hid hpl
              have hLL := Lib.hid (hL'.out g9)
              clear hpl
              go_wp2
              try simp only [Exit.inBlock, Exit.then]
              refine bodyPost_ret (v := .tuple #[.agg #[.int .i64 (bl.length : Int), .slice (some ⟨g9, 0, none⟩) pl pl], .int .i64 0]) ?_ rfl (hLL.out _ _ rfl (by have := hB7.out.size; omega) ((hW9'.out.setOther hgn _).setOther hgn _) ?_)
              · rw [results_cell2 rfl]
                go_simp
              · exact (hB8.out.setCell (by simp; omega) _).setCell (by simp; omega) _
        · have hL := hL21.out hrows.out heq
          have hL' := Lib.hid hL
          clear hL hrows
          by_cases h01 : nf 0 = nf 1
          · have h21 : ¬ nf 2 = nf 1 := fun e => heq ⟨h01, e⟩
            clear heq
            rw [h01] at y0
            go_wp2
            try simp only [Exit.inBlock, Exit.then]
            refine bodyPost_ret (v := .tuple #[.agg #[.int .i64 0, .slice none 0 0], .int .i64 21]) ?_ rfl (lineIs_err hL'.out (by decide) ⟨rfl, ?_⟩)
            · rw [results_cell2 rfl]
              go_simp
            · exact (hBr.out.setCell (by simp; omega) _).setCell (by simp; omega) _
          · clear heq
            go_wp2
            try simp only [Exit.inBlock, Exit.then]
            refine bodyPost_ret (v := .tuple #[.agg #[.int .i64 0, .slice none 0 0], .int .i64 21]) ?_ rfl (lineIs_err hL'.out (by decide) ⟨rfl, ?_⟩)
            · rw [results_cell2 rfl]
              go_simp
            · exact (hBr.out.setCell (by simp; omega) _).setCell (by simp; omega) _
  · have hL : lineE hood born stay (nf 0) (nf 1) (nf 2) (R 0) (R 1) (R 2) = 8 := by unfold lineE; rw [if_neg hE]
    refine Calls.mono ?_ (fun e w' hq => lineIs_err hL (by decide) hq)
    generalize lifeE hood born stay = E at *
    generalize (R 0).length = l0 at *
    generalize (R 1).length = l1 at *
    generalize (R 2).length = l2 at *
    generalize nf 0 = n0 at *
    generalize nf 1 = n1 at *
    generalize nf 2 = n2 at *
    clear hL
    go_enter Try.func12, Try.ntmps12
    go_wp2_with fail
    refine (K1.out _).mono ?_
    rintro e w1 ⟨rfl, hb⟩
    obtain ⟨hc1, hf1⟩ := bcell hb
    have hz1 : w.heap.size + 1 + 1 + 1 + 1 < w1.heap.size := by have := hb.size; simp at this; omega
    have hB : Hid (Below w.heap.size w w1) := below_then (((((below_new _).alloc (by simp) _).alloc (by simp; omega) _).alloc (by simp; omega) _).alloc (by simp; omega) _) hb (by simp; omega)
    clear hb
    go_wp2
    try simp only [Exit.inBlock, Exit.then]
    refine bodyPost_ret (v := .tuple #[.agg #[.int .i64 0, .slice none 0 0], .int .i64 8]) ?_ rfl ⟨rfl, ?_⟩
    · rw [results_cell2 rfl]
      go_simp
    · exact (hB.out.setCell (by simp; omega) _).setCell (by simp; omega) _
end Go.Proofs.Ytigghbehnnghnaa
