import Derived.Test.YtigghbehnnghnaaRlY
import Derived.RegionTactic
namespace Go.Proofs.Ytigghbehnnghnaa
open Go.RowKit Go.RowBits Go.MapRaw Go.Maps
set_option linter.unusedSimpArgs false
set_option linter.unusedVariables false

theorem results_cellcell {fn : Func} {p u : Tmp} {ty tz : TypeId} (h : fn.results = #[.cell p ty, .cell u tz]) (tmps : Array Value) (P : Program) (w : World) :
    (results fn tmps).run P w = ((asAddr (tmps.getD p undef)).run P w).andThen fun a w₁ => ((loadVar ty a).run P w₁).andThen fun x w₂ => ((asAddr (tmps.getD u undef)).run P w₂).andThen fun b w₃ => ((loadVar tz b).run P w₃).andThen fun y w₄ => .ok (.tuple #[x, y]) w₄ := by
  simp only [results, h]
  simp [Sem.run_bind, Result.andThen]
def wideOf (width : Int) : Nat := (1 + (width.tmod 20 + 20) % 20).toNat
theorem wideOf_eq (width : Int) : 1 + (width.tmod 20 + 20).tmod 20 = (wideOf width : Int) ∧ 1 ≤ wideOf width ∧ wideOf width ≤ 20 := by
  have h1 : -20 < width.tmod 20 ∧ width.tmod 20 < 20 := by
    have h := Int.tmod_lt_of_pos width (b := 20) (by omega)
    have h2 := Int.lt_tmod_of_pos width (b := 20) (by omega)
    omega
  have h3 : (width.tmod 20 + 20).tmod 20 = (width.tmod 20 + 20) % 20 := by rw [Int.tmod_eq_emod_of_nonneg (by omega)]
  rw [h3]
  unfold wideOf
  omega
structure StripF (b born stay : Nat) (k : Int) (n : Nat) (w W : World) : Prop where
  B : Below b w W
  p0 : W.cell? ⟨b + 1, 0, none⟩ = some (.int .u8 1)
  p1 : W.cell? ⟨b + 1, 1, none⟩ = some (.int .u8 1)
  p2 : W.cell? ⟨b + 1, 2, none⟩ = some (.int .u16 ((born &&& 510 : Nat) : Int))
  p3 : W.cell? ⟨b + 1, 3, none⟩ = some (.int .u16 ((stay &&& 511 : Nat) : Int))
  p4 : W.cell? ⟨b + 1, 4, none⟩ = some (.int .i64 2)
  p5 : W.cell? ⟨b + 1, 5, none⟩ = some (.string ⟨#[]⟩)
  p6 : W.cell? ⟨b + 1, 6, none⟩ = some (.int .i64 0)
  p7 : W.cell? ⟨b + 1, 7, none⟩ = some (.int .u8 0)
  p8 : W.cell? ⟨b + 1, 8, none⟩ = some (.int .u8 0)
  p9 : W.cell? ⟨b + 1, 9, none⟩ = some (.slice none 0 0)
  p10 : W.cell? ⟨b + 1, 10, none⟩ = some (.slice none 0 0)
  q0 : W.cell? ⟨b + 1 + 1, 0, none⟩ = some (.int .u8 k)
  q1 : W.cell? ⟨b + 1 + 1, 1, none⟩ = some (.int .i64 (n : Int))
  q2 : W.cell? ⟨b + 1 + 1, 2, none⟩ = some (.int .i64 0)
  q3 : W.cell? ⟨b + 1 + 1, 3, none⟩ = some (.int .u8 0)
  q4 : W.cell? ⟨b + 1 + 1, 4, none⟩ = some (.int .i64 0)
def kindOf (torus : Bool) : Int := if torus then 2 else 1
/-- Two blocks of one's own, the one after the other, and what is written into them. -/
structure Two (b : Nat) (w : World) (c1 c2 : Array Value) (w1 : World) : Prop where
  B : Below b w w1
  a : w1.heap[b + 1]? = some (.cells c1 46 (0, 0))
  c : w1.heap[b + 1 + 1]? = some (.cells c2 49 (0, 0))
theorem Two.seta {b : Nat} {w w1 : World} {c1 c2 : Array Value} (h : Two b w c1 c2 w1) (j : Nat) (u : Value) : Two b w (c1.setIfInBounds j u) c2 (w1.setCell ⟨b + 1, j, none⟩ u) :=
  ⟨h.B.setCell (by show b ≤ b + 1; omega) _, heap_setCell_same w1 (b + 1) j _ 46 u h.a, (heap_setCell_other w1 ⟨b + 1, j, none⟩ (b + 1 + 1) u (by show b + 1 + 1 ≠ b + 1; omega)).trans h.c⟩
theorem Two.setc {b : Nat} {w w1 : World} {c1 c2 : Array Value} (h : Two b w c1 c2 w1) (j : Nat) (u : Value) : Two b w c1 (c2.setIfInBounds j u) (w1.setCell ⟨b + 1 + 1, j, none⟩ u) :=
  ⟨h.B.setCell (by show b ≤ b + 1 + 1; omega) _, (heap_setCell_other w1 ⟨b + 1 + 1, j, none⟩ (b + 1) u (by show b + 1 ≠ b + 1 + 1; omega)).trans h.a, heap_setCell_same w1 (b + 1 + 1) j _ 49 u h.c⟩
theorem Two.more {b : Nat} {w w1 w2 : World} {c1 c2 : Array Value} (h : Two b w c1 c2 w1) (hb : Below w1.heap.size w1 w2) : Two b w c1 c2 w2 :=
  ⟨below_then h.B hb (by have := (Array.getElem?_eq_some_iff.1 h.a).1; omega), (hb.block _ (Array.getElem?_eq_some_iff.1 h.a).1).trans h.a, (hb.block _ (Array.getElem?_eq_some_iff.1 h.c).1).trans h.c⟩
theorem stripF_of {b born stay : Nat} {k : Int} {n : Nat} {w w1 : World} (hB : Below b w w1) (h1 : w1.heap[b + 1]? = some (.cells #[.int .u8 0, .int .u8 0, .int .u16 0, .int .u16 0, .int .i64 0, .string ⟨#[]⟩, .int .i64 0, .int .u8 0, .int .u8 0, .slice none 0 0, .slice none 0 0] 46 (0, 0))) (h2 : w1.heap[b + 1 + 1]? = some (.cells #[.int .u8 0, .int .i64 0, .int .i64 0, .int .u8 0, .int .i64 0] 49 (0, 0))) (c3 c4 : Array Value) :
    StripF b born stay k n w ((((((((((((((((((w1.setCell ⟨b + 1, 0, none⟩ (.int .u8 1)).setCell ⟨b + 1, 1, none⟩ (.int .u8 1)).setCell ⟨b + 1, 2, none⟩ (.int .u16 ((born &&& 510 : Nat) : Int))).setCell ⟨b + 1, 3, none⟩ (.int .u16 ((stay &&& 511 : Nat) : Int))).setCell ⟨b + 1, 4, none⟩ (.int .i64 2)).setCell ⟨b + 1, 5, none⟩ (.string ⟨#[]⟩)).setCell ⟨b + 1, 6, none⟩ (.int .i64 0)).setCell ⟨b + 1, 7, none⟩ (.int .u8 0)).setCell ⟨b + 1, 8, none⟩ (.int .u8 0)).setCell ⟨b + 1, 9, none⟩ (.slice none 0 0)).setCell ⟨b + 1, 10, none⟩ (.slice none 0 0)).setCell ⟨b + 1 + 1, 0, none⟩ (.int .u8 k)).setCell ⟨b + 1 + 1, 1, none⟩ (.int .i64 (n : Int))).setCell ⟨b + 1 + 1, 2, none⟩ (.int .i64 0)).setCell ⟨b + 1 + 1, 3, none⟩ (.int .u8 0)).setCell ⟨b + 1 + 1, 4, none⟩ (.int .i64 0)).alloc (.cells c3 46)).alloc (.cells c4 49)).drew := by
  have h0 : Two b w _ _ w1 := ⟨hB, h1, h2⟩
  have h1 : Two b w #[.int .u8 1, .int .u8 0, .int .u16 0, .int .u16 0, .int .i64 0, .string ⟨#[]⟩, .int .i64 0, .int .u8 0, .int .u8 0, .slice none 0 0, .slice none 0 0] #[.int .u8 0, .int .i64 0, .int .i64 0, .int .u8 0, .int .i64 0] _ := h0.seta 0 (.int .u8 1)
  clear h0
  have h2 : Two b w #[.int .u8 1, .int .u8 1, .int .u16 0, .int .u16 0, .int .i64 0, .string ⟨#[]⟩, .int .i64 0, .int .u8 0, .int .u8 0, .slice none 0 0, .slice none 0 0] #[.int .u8 0, .int .i64 0, .int .i64 0, .int .u8 0, .int .i64 0] _ := h1.seta 1 (.int .u8 1)
  clear h1
  have h3 : Two b w #[.int .u8 1, .int .u8 1, .int .u16 ((born &&& 510 : Nat) : Int), .int .u16 0, .int .i64 0, .string ⟨#[]⟩, .int .i64 0, .int .u8 0, .int .u8 0, .slice none 0 0, .slice none 0 0] #[.int .u8 0, .int .i64 0, .int .i64 0, .int .u8 0, .int .i64 0] _ := h2.seta 2 (.int .u16 ((born &&& 510 : Nat) : Int))
  clear h2
  have h4 : Two b w #[.int .u8 1, .int .u8 1, .int .u16 ((born &&& 510 : Nat) : Int), .int .u16 ((stay &&& 511 : Nat) : Int), .int .i64 0, .string ⟨#[]⟩, .int .i64 0, .int .u8 0, .int .u8 0, .slice none 0 0, .slice none 0 0] #[.int .u8 0, .int .i64 0, .int .i64 0, .int .u8 0, .int .i64 0] _ := h3.seta 3 (.int .u16 ((stay &&& 511 : Nat) : Int))
  clear h3
  have h5 : Two b w #[.int .u8 1, .int .u8 1, .int .u16 ((born &&& 510 : Nat) : Int), .int .u16 ((stay &&& 511 : Nat) : Int), .int .i64 2, .string ⟨#[]⟩, .int .i64 0, .int .u8 0, .int .u8 0, .slice none 0 0, .slice none 0 0] #[.int .u8 0, .int .i64 0, .int .i64 0, .int .u8 0, .int .i64 0] _ := h4.seta 4 (.int .i64 2)
  clear h4
  have h6 : Two b w #[.int .u8 1, .int .u8 1, .int .u16 ((born &&& 510 : Nat) : Int), .int .u16 ((stay &&& 511 : Nat) : Int), .int .i64 2, .string ⟨#[]⟩, .int .i64 0, .int .u8 0, .int .u8 0, .slice none 0 0, .slice none 0 0] #[.int .u8 0, .int .i64 0, .int .i64 0, .int .u8 0, .int .i64 0] _ := h5.seta 5 (.string ⟨#[]⟩)
  clear h5
  have h7 : Two b w #[.int .u8 1, .int .u8 1, .int .u16 ((born &&& 510 : Nat) : Int), .int .u16 ((stay &&& 511 : Nat) : Int), .int .i64 2, .string ⟨#[]⟩, .int .i64 0, .int .u8 0, .int .u8 0, .slice none 0 0, .slice none 0 0] #[.int .u8 0, .int .i64 0, .int .i64 0, .int .u8 0, .int .i64 0] _ := h6.seta 6 (.int .i64 0)
  clear h6
  have h8 : Two b w #[.int .u8 1, .int .u8 1, .int .u16 ((born &&& 510 : Nat) : Int), .int .u16 ((stay &&& 511 : Nat) : Int), .int .i64 2, .string ⟨#[]⟩, .int .i64 0, .int .u8 0, .int .u8 0, .slice none 0 0, .slice none 0 0] #[.int .u8 0, .int .i64 0, .int .i64 0, .int .u8 0, .int .i64 0] _ := h7.seta 7 (.int .u8 0)
  clear h7
  have h9 : Two b w #[.int .u8 1, .int .u8 1, .int .u16 ((born &&& 510 : Nat) : Int), .int .u16 ((stay &&& 511 : Nat) : Int), .int .i64 2, .string ⟨#[]⟩, .int .i64 0, .int .u8 0, .int .u8 0, .slice none 0 0, .slice none 0 0] #[.int .u8 0, .int .i64 0, .int .i64 0, .int .u8 0, .int .i64 0] _ := h8.seta 8 (.int .u8 0)
  clear h8
  have h10 : Two b w #[.int .u8 1, .int .u8 1, .int .u16 ((born &&& 510 : Nat) : Int), .int .u16 ((stay &&& 511 : Nat) : Int), .int .i64 2, .string ⟨#[]⟩, .int .i64 0, .int .u8 0, .int .u8 0, .slice none 0 0, .slice none 0 0] #[.int .u8 0, .int .i64 0, .int .i64 0, .int .u8 0, .int .i64 0] _ := h9.seta 9 (.slice none 0 0)
  clear h9
  have h11 : Two b w #[.int .u8 1, .int .u8 1, .int .u16 ((born &&& 510 : Nat) : Int), .int .u16 ((stay &&& 511 : Nat) : Int), .int .i64 2, .string ⟨#[]⟩, .int .i64 0, .int .u8 0, .int .u8 0, .slice none 0 0, .slice none 0 0] #[.int .u8 0, .int .i64 0, .int .i64 0, .int .u8 0, .int .i64 0] _ := h10.seta 10 (.slice none 0 0)
  clear h10
  have h12 : Two b w #[.int .u8 1, .int .u8 1, .int .u16 ((born &&& 510 : Nat) : Int), .int .u16 ((stay &&& 511 : Nat) : Int), .int .i64 2, .string ⟨#[]⟩, .int .i64 0, .int .u8 0, .int .u8 0, .slice none 0 0, .slice none 0 0] #[.int .u8 k, .int .i64 0, .int .i64 0, .int .u8 0, .int .i64 0] _ := h11.setc 0 (.int .u8 k)
  clear h11
  have h13 : Two b w #[.int .u8 1, .int .u8 1, .int .u16 ((born &&& 510 : Nat) : Int), .int .u16 ((stay &&& 511 : Nat) : Int), .int .i64 2, .string ⟨#[]⟩, .int .i64 0, .int .u8 0, .int .u8 0, .slice none 0 0, .slice none 0 0] #[.int .u8 k, .int .i64 (n : Int), .int .i64 0, .int .u8 0, .int .i64 0] _ := h12.setc 1 (.int .i64 (n : Int))
  clear h12
  have h14 : Two b w #[.int .u8 1, .int .u8 1, .int .u16 ((born &&& 510 : Nat) : Int), .int .u16 ((stay &&& 511 : Nat) : Int), .int .i64 2, .string ⟨#[]⟩, .int .i64 0, .int .u8 0, .int .u8 0, .slice none 0 0, .slice none 0 0] #[.int .u8 k, .int .i64 (n : Int), .int .i64 0, .int .u8 0, .int .i64 0] _ := h13.setc 2 (.int .i64 0)
  clear h13
  have h15 : Two b w #[.int .u8 1, .int .u8 1, .int .u16 ((born &&& 510 : Nat) : Int), .int .u16 ((stay &&& 511 : Nat) : Int), .int .i64 2, .string ⟨#[]⟩, .int .i64 0, .int .u8 0, .int .u8 0, .slice none 0 0, .slice none 0 0] #[.int .u8 k, .int .i64 (n : Int), .int .i64 0, .int .u8 0, .int .i64 0] _ := h14.setc 3 (.int .u8 0)
  clear h14
  have h16 : Two b w #[.int .u8 1, .int .u8 1, .int .u16 ((born &&& 510 : Nat) : Int), .int .u16 ((stay &&& 511 : Nat) : Int), .int .i64 2, .string ⟨#[]⟩, .int .i64 0, .int .u8 0, .int .u8 0, .slice none 0 0, .slice none 0 0] #[.int .u8 k, .int .i64 (n : Int), .int .i64 0, .int .u8 0, .int .i64 0] _ := h15.setc 4 (.int .i64 0)
  clear h15
  have hT := h16.more ((((Below.refl _ _).alloc (Nat.le_refl _) (.cells c3 46)).alloc (by simp) (.cells c4 49)).drew)
  clear h16
  obtain ⟨hB', ha, hc⟩ := hT
  refine ⟨hB', by rw [cell_of_row _ _ 0 _ 46 (0, 0) ha]; rfl, by rw [cell_of_row _ _ 1 _ 46 (0, 0) ha]; rfl, by rw [cell_of_row _ _ 2 _ 46 (0, 0) ha]; rfl, by rw [cell_of_row _ _ 3 _ 46 (0, 0) ha]; rfl, by rw [cell_of_row _ _ 4 _ 46 (0, 0) ha]; rfl, by rw [cell_of_row _ _ 5 _ 46 (0, 0) ha]; rfl, by rw [cell_of_row _ _ 6 _ 46 (0, 0) ha]; rfl, by rw [cell_of_row _ _ 7 _ 46 (0, 0) ha]; rfl, by rw [cell_of_row _ _ 8 _ 46 (0, 0) ha]; rfl, by rw [cell_of_row _ _ 9 _ 46 (0, 0) ha]; rfl, by rw [cell_of_row _ _ 10 _ 46 (0, 0) ha]; rfl, by rw [cell_of_row _ _ 0 _ 49 (0, 0) hc]; rfl, by rw [cell_of_row _ _ 1 _ 49 (0, 0) hc]; rfl, by rw [cell_of_row _ _ 2 _ 49 (0, 0) hc]; rfl, by rw [cell_of_row _ _ 3 _ 49 (0, 0) hc]; rfl, by rw [cell_of_row _ _ 4 _ 49 (0, 0) hc]; rfl⟩
set_option maxRecDepth 20000 in
set_option maxHeartbeats 4000000 in
theorem strip25 {h : Int} {born stay : Nat} (hb : born < 65536) (hs : stay < 65536) (torus : Bool) (width : Int) (w : World) : Calls Try.prog 25 #[.agg #[.int .u8 h, .int .u16 (born : Int), .int .u16 (stay : Int)], .bool torus, .int .i64 width] w fun e w' =>
    e = .returned (.tuple #[lifeRule 1 (born &&& 510) (stay &&& 511), topoV (kindOf torus) (wideOf width : Int) 0]) ∧ Below w.heap.size w w' := by
  have K1 := Lib.hid conway19
  have a1 : bits .and .u16 (born : Int) 510 = ((born &&& 510 : Nat) : Int) := u16_and_nat born 510 hb (by omega)
  have a2 : bits .and .u16 (stay : Int) 511 = ((stay &&& 511 : Nat) : Int) := u16_and_nat stay 511 hs (by omega)
  obtain ⟨b1, b2, b3⟩ := wideOf_eq width
  have hm1 : -20 < width.tmod 20 ∧ width.tmod 20 < 20 := by
    have h := Int.tmod_lt_of_pos width (b := 20) (by omega)
    have h2 := Int.lt_tmod_of_pos width (b := 20) (by omega)
    omega
  go_enter Try.func25, Try.ntmps25
  go_wp2_with fail
  refine (K1.out _).mono ?_
  rintro e w1 ⟨rfl, hb⟩
  have E1 := Lib.hid ((((((Blks.nil w).alloc rfl #[.int .u8 h, .int .u16 (born : Int), .int .u16 (stay : Int)] 24).alloc (n := w.heap.size + 1) (by simp) #[.int .u8 0, .int .u8 0, .int .u16 0, .int .u16 0, .int .i64 0, .string ⟨#[]⟩, .int .i64 0, .int .u8 0, .int .u8 0, .slice none 0 0, .slice none 0 0] 46).alloc (n := w.heap.size + 1 + 1) (by simp) #[.int .u8 0, .int .i64 0, .int .i64 0, .int .u8 0, .int .i64 0] 49)).kept hb)
  have hz : w.heap.size + 1 + 1 < w1.heap.size := by have := hb.size; simp at this; omega
  have hz0 : w.heap.size < w1.heap.size := by omega
  have hz1 : w.heap.size + 1 < w1.heap.size := by omega
  have hB1 := Lib.hid (below_then (B := w.heap.size) (((below_new _).alloc (by simp) _).alloc (by simp; omega) _) hb (by simp; omega))
  have c1 : w1.cell? ⟨w.heap.size, 1, none⟩ = some (.int .u16 (born : Int)) := E1.out.cell (cs := #[.int .u8 h, .int .u16 (born : Int), .int .u16 (stay : Int)]) (T := 24) (by simp) rfl
  have c2 : w1.cell? ⟨w.heap.size, 2, none⟩ = some (.int .u16 (stay : Int)) := E1.out.cell (cs := #[.int .u8 h, .int .u16 (born : Int), .int .u16 (stay : Int)]) (T := 24) (by simp) rfl
  clear hb
  have b4 : Hid (1 + width.tmod 20 % 20 = (wideOf width : Int)) := by
    have : 1 + width.tmod 20 % 20 = (wideOf width : Int) := by unfold wideOf; omega
    exact this
  have p0 : w1.cell? ⟨w.heap.size + 1, 0, none⟩ = some (.int .u8 0) := E1.out.cell (cs := #[.int .u8 0, .int .u8 0, .int .u16 0, .int .u16 0, .int .i64 0, .string ⟨#[]⟩, .int .i64 0, .int .u8 0, .int .u8 0, .slice none 0 0, .slice none 0 0]) (T := 46) (by simp) rfl
  have fp0 : w1.frozen? ⟨w.heap.size + 1, 0, none⟩ = false := frozen_of_row w1 _ 0 #[.int .u8 0, .int .u8 0, .int .u16 0, .int .u16 0, .int .i64 0, .string ⟨#[]⟩, .int .i64 0, .int .u8 0, .int .u8 0, .slice none 0 0, .slice none 0 0] 46 (E1.out (w.heap.size + 1, #[.int .u8 0, .int .u8 0, .int .u16 0, .int .u16 0, .int .i64 0, .string ⟨#[]⟩, .int .i64 0, .int .u8 0, .int .u8 0, .slice none 0 0, .slice none 0 0], 46) (by simp))
  have p1 : w1.cell? ⟨w.heap.size + 1, 1, none⟩ = some (.int .u8 0) := E1.out.cell (cs := #[.int .u8 0, .int .u8 0, .int .u16 0, .int .u16 0, .int .i64 0, .string ⟨#[]⟩, .int .i64 0, .int .u8 0, .int .u8 0, .slice none 0 0, .slice none 0 0]) (T := 46) (by simp) rfl
  have fp1 : w1.frozen? ⟨w.heap.size + 1, 1, none⟩ = false := frozen_of_row w1 _ 1 #[.int .u8 0, .int .u8 0, .int .u16 0, .int .u16 0, .int .i64 0, .string ⟨#[]⟩, .int .i64 0, .int .u8 0, .int .u8 0, .slice none 0 0, .slice none 0 0] 46 (E1.out (w.heap.size + 1, #[.int .u8 0, .int .u8 0, .int .u16 0, .int .u16 0, .int .i64 0, .string ⟨#[]⟩, .int .i64 0, .int .u8 0, .int .u8 0, .slice none 0 0, .slice none 0 0], 46) (by simp))
  have p2 : w1.cell? ⟨w.heap.size + 1, 2, none⟩ = some (.int .u16 0) := E1.out.cell (cs := #[.int .u8 0, .int .u8 0, .int .u16 0, .int .u16 0, .int .i64 0, .string ⟨#[]⟩, .int .i64 0, .int .u8 0, .int .u8 0, .slice none 0 0, .slice none 0 0]) (T := 46) (by simp) rfl
  have fp2 : w1.frozen? ⟨w.heap.size + 1, 2, none⟩ = false := frozen_of_row w1 _ 2 #[.int .u8 0, .int .u8 0, .int .u16 0, .int .u16 0, .int .i64 0, .string ⟨#[]⟩, .int .i64 0, .int .u8 0, .int .u8 0, .slice none 0 0, .slice none 0 0] 46 (E1.out (w.heap.size + 1, #[.int .u8 0, .int .u8 0, .int .u16 0, .int .u16 0, .int .i64 0, .string ⟨#[]⟩, .int .i64 0, .int .u8 0, .int .u8 0, .slice none 0 0, .slice none 0 0], 46) (by simp))
  have p3 : w1.cell? ⟨w.heap.size + 1, 3, none⟩ = some (.int .u16 0) := E1.out.cell (cs := #[.int .u8 0, .int .u8 0, .int .u16 0, .int .u16 0, .int .i64 0, .string ⟨#[]⟩, .int .i64 0, .int .u8 0, .int .u8 0, .slice none 0 0, .slice none 0 0]) (T := 46) (by simp) rfl
  have fp3 : w1.frozen? ⟨w.heap.size + 1, 3, none⟩ = false := frozen_of_row w1 _ 3 #[.int .u8 0, .int .u8 0, .int .u16 0, .int .u16 0, .int .i64 0, .string ⟨#[]⟩, .int .i64 0, .int .u8 0, .int .u8 0, .slice none 0 0, .slice none 0 0] 46 (E1.out (w.heap.size + 1, #[.int .u8 0, .int .u8 0, .int .u16 0, .int .u16 0, .int .i64 0, .string ⟨#[]⟩, .int .i64 0, .int .u8 0, .int .u8 0, .slice none 0 0, .slice none 0 0], 46) (by simp))
  have p4 : w1.cell? ⟨w.heap.size + 1, 4, none⟩ = some (.int .i64 0) := E1.out.cell (cs := #[.int .u8 0, .int .u8 0, .int .u16 0, .int .u16 0, .int .i64 0, .string ⟨#[]⟩, .int .i64 0, .int .u8 0, .int .u8 0, .slice none 0 0, .slice none 0 0]) (T := 46) (by simp) rfl
  have fp4 : w1.frozen? ⟨w.heap.size + 1, 4, none⟩ = false := frozen_of_row w1 _ 4 #[.int .u8 0, .int .u8 0, .int .u16 0, .int .u16 0, .int .i64 0, .string ⟨#[]⟩, .int .i64 0, .int .u8 0, .int .u8 0, .slice none 0 0, .slice none 0 0] 46 (E1.out (w.heap.size + 1, #[.int .u8 0, .int .u8 0, .int .u16 0, .int .u16 0, .int .i64 0, .string ⟨#[]⟩, .int .i64 0, .int .u8 0, .int .u8 0, .slice none 0 0, .slice none 0 0], 46) (by simp))
  have p5 : w1.cell? ⟨w.heap.size + 1, 5, none⟩ = some (.string ⟨#[]⟩) := E1.out.cell (cs := #[.int .u8 0, .int .u8 0, .int .u16 0, .int .u16 0, .int .i64 0, .string ⟨#[]⟩, .int .i64 0, .int .u8 0, .int .u8 0, .slice none 0 0, .slice none 0 0]) (T := 46) (by simp) rfl
  have fp5 : w1.frozen? ⟨w.heap.size + 1, 5, none⟩ = false := frozen_of_row w1 _ 5 #[.int .u8 0, .int .u8 0, .int .u16 0, .int .u16 0, .int .i64 0, .string ⟨#[]⟩, .int .i64 0, .int .u8 0, .int .u8 0, .slice none 0 0, .slice none 0 0] 46 (E1.out (w.heap.size + 1, #[.int .u8 0, .int .u8 0, .int .u16 0, .int .u16 0, .int .i64 0, .string ⟨#[]⟩, .int .i64 0, .int .u8 0, .int .u8 0, .slice none 0 0, .slice none 0 0], 46) (by simp))
  have p6 : w1.cell? ⟨w.heap.size + 1, 6, none⟩ = some (.int .i64 0) := E1.out.cell (cs := #[.int .u8 0, .int .u8 0, .int .u16 0, .int .u16 0, .int .i64 0, .string ⟨#[]⟩, .int .i64 0, .int .u8 0, .int .u8 0, .slice none 0 0, .slice none 0 0]) (T := 46) (by simp) rfl
  have fp6 : w1.frozen? ⟨w.heap.size + 1, 6, none⟩ = false := frozen_of_row w1 _ 6 #[.int .u8 0, .int .u8 0, .int .u16 0, .int .u16 0, .int .i64 0, .string ⟨#[]⟩, .int .i64 0, .int .u8 0, .int .u8 0, .slice none 0 0, .slice none 0 0] 46 (E1.out (w.heap.size + 1, #[.int .u8 0, .int .u8 0, .int .u16 0, .int .u16 0, .int .i64 0, .string ⟨#[]⟩, .int .i64 0, .int .u8 0, .int .u8 0, .slice none 0 0, .slice none 0 0], 46) (by simp))
  have p7 : w1.cell? ⟨w.heap.size + 1, 7, none⟩ = some (.int .u8 0) := E1.out.cell (cs := #[.int .u8 0, .int .u8 0, .int .u16 0, .int .u16 0, .int .i64 0, .string ⟨#[]⟩, .int .i64 0, .int .u8 0, .int .u8 0, .slice none 0 0, .slice none 0 0]) (T := 46) (by simp) rfl
  have fp7 : w1.frozen? ⟨w.heap.size + 1, 7, none⟩ = false := frozen_of_row w1 _ 7 #[.int .u8 0, .int .u8 0, .int .u16 0, .int .u16 0, .int .i64 0, .string ⟨#[]⟩, .int .i64 0, .int .u8 0, .int .u8 0, .slice none 0 0, .slice none 0 0] 46 (E1.out (w.heap.size + 1, #[.int .u8 0, .int .u8 0, .int .u16 0, .int .u16 0, .int .i64 0, .string ⟨#[]⟩, .int .i64 0, .int .u8 0, .int .u8 0, .slice none 0 0, .slice none 0 0], 46) (by simp))
  have p8 : w1.cell? ⟨w.heap.size + 1, 8, none⟩ = some (.int .u8 0) := E1.out.cell (cs := #[.int .u8 0, .int .u8 0, .int .u16 0, .int .u16 0, .int .i64 0, .string ⟨#[]⟩, .int .i64 0, .int .u8 0, .int .u8 0, .slice none 0 0, .slice none 0 0]) (T := 46) (by simp) rfl
  have fp8 : w1.frozen? ⟨w.heap.size + 1, 8, none⟩ = false := frozen_of_row w1 _ 8 #[.int .u8 0, .int .u8 0, .int .u16 0, .int .u16 0, .int .i64 0, .string ⟨#[]⟩, .int .i64 0, .int .u8 0, .int .u8 0, .slice none 0 0, .slice none 0 0] 46 (E1.out (w.heap.size + 1, #[.int .u8 0, .int .u8 0, .int .u16 0, .int .u16 0, .int .i64 0, .string ⟨#[]⟩, .int .i64 0, .int .u8 0, .int .u8 0, .slice none 0 0, .slice none 0 0], 46) (by simp))
  have p9 : w1.cell? ⟨w.heap.size + 1, 9, none⟩ = some (.slice none 0 0) := E1.out.cell (cs := #[.int .u8 0, .int .u8 0, .int .u16 0, .int .u16 0, .int .i64 0, .string ⟨#[]⟩, .int .i64 0, .int .u8 0, .int .u8 0, .slice none 0 0, .slice none 0 0]) (T := 46) (by simp) rfl
  have fp9 : w1.frozen? ⟨w.heap.size + 1, 9, none⟩ = false := frozen_of_row w1 _ 9 #[.int .u8 0, .int .u8 0, .int .u16 0, .int .u16 0, .int .i64 0, .string ⟨#[]⟩, .int .i64 0, .int .u8 0, .int .u8 0, .slice none 0 0, .slice none 0 0] 46 (E1.out (w.heap.size + 1, #[.int .u8 0, .int .u8 0, .int .u16 0, .int .u16 0, .int .i64 0, .string ⟨#[]⟩, .int .i64 0, .int .u8 0, .int .u8 0, .slice none 0 0, .slice none 0 0], 46) (by simp))
  have p10 : w1.cell? ⟨w.heap.size + 1, 10, none⟩ = some (.slice none 0 0) := E1.out.cell (cs := #[.int .u8 0, .int .u8 0, .int .u16 0, .int .u16 0, .int .i64 0, .string ⟨#[]⟩, .int .i64 0, .int .u8 0, .int .u8 0, .slice none 0 0, .slice none 0 0]) (T := 46) (by simp) rfl
  have fp10 : w1.frozen? ⟨w.heap.size + 1, 10, none⟩ = false := frozen_of_row w1 _ 10 #[.int .u8 0, .int .u8 0, .int .u16 0, .int .u16 0, .int .i64 0, .string ⟨#[]⟩, .int .i64 0, .int .u8 0, .int .u8 0, .slice none 0 0, .slice none 0 0] 46 (E1.out (w.heap.size + 1, #[.int .u8 0, .int .u8 0, .int .u16 0, .int .u16 0, .int .i64 0, .string ⟨#[]⟩, .int .i64 0, .int .u8 0, .int .u8 0, .slice none 0 0, .slice none 0 0], 46) (by simp))
  have q0 : w1.cell? ⟨w.heap.size + 1 + 1, 0, none⟩ = some (.int .u8 0) := E1.out.cell (cs := #[.int .u8 0, .int .i64 0, .int .i64 0, .int .u8 0, .int .i64 0]) (T := 49) (by simp) rfl
  have fq0 : w1.frozen? ⟨w.heap.size + 1 + 1, 0, none⟩ = false := frozen_of_row w1 _ 0 #[.int .u8 0, .int .i64 0, .int .i64 0, .int .u8 0, .int .i64 0] 49 (E1.out (w.heap.size + 1 + 1, #[.int .u8 0, .int .i64 0, .int .i64 0, .int .u8 0, .int .i64 0], 49) (by simp))
  have q1 : w1.cell? ⟨w.heap.size + 1 + 1, 1, none⟩ = some (.int .i64 0) := E1.out.cell (cs := #[.int .u8 0, .int .i64 0, .int .i64 0, .int .u8 0, .int .i64 0]) (T := 49) (by simp) rfl
  have fq1 : w1.frozen? ⟨w.heap.size + 1 + 1, 1, none⟩ = false := frozen_of_row w1 _ 1 #[.int .u8 0, .int .i64 0, .int .i64 0, .int .u8 0, .int .i64 0] 49 (E1.out (w.heap.size + 1 + 1, #[.int .u8 0, .int .i64 0, .int .i64 0, .int .u8 0, .int .i64 0], 49) (by simp))
  have q2 : w1.cell? ⟨w.heap.size + 1 + 1, 2, none⟩ = some (.int .i64 0) := E1.out.cell (cs := #[.int .u8 0, .int .i64 0, .int .i64 0, .int .u8 0, .int .i64 0]) (T := 49) (by simp) rfl
  have fq2 : w1.frozen? ⟨w.heap.size + 1 + 1, 2, none⟩ = false := frozen_of_row w1 _ 2 #[.int .u8 0, .int .i64 0, .int .i64 0, .int .u8 0, .int .i64 0] 49 (E1.out (w.heap.size + 1 + 1, #[.int .u8 0, .int .i64 0, .int .i64 0, .int .u8 0, .int .i64 0], 49) (by simp))
  have q3 : w1.cell? ⟨w.heap.size + 1 + 1, 3, none⟩ = some (.int .u8 0) := E1.out.cell (cs := #[.int .u8 0, .int .i64 0, .int .i64 0, .int .u8 0, .int .i64 0]) (T := 49) (by simp) rfl
  have fq3 : w1.frozen? ⟨w.heap.size + 1 + 1, 3, none⟩ = false := frozen_of_row w1 _ 3 #[.int .u8 0, .int .i64 0, .int .i64 0, .int .u8 0, .int .i64 0] 49 (E1.out (w.heap.size + 1 + 1, #[.int .u8 0, .int .i64 0, .int .i64 0, .int .u8 0, .int .i64 0], 49) (by simp))
  have q4 : w1.cell? ⟨w.heap.size + 1 + 1, 4, none⟩ = some (.int .i64 0) := E1.out.cell (cs := #[.int .u8 0, .int .i64 0, .int .i64 0, .int .u8 0, .int .i64 0]) (T := 49) (by simp) rfl
  have fq4 : w1.frozen? ⟨w.heap.size + 1 + 1, 4, none⟩ = false := frozen_of_row w1 _ 4 #[.int .u8 0, .int .i64 0, .int .i64 0, .int .u8 0, .int .i64 0] 49 (E1.out (w.heap.size + 1 + 1, #[.int .u8 0, .int .i64 0, .int .i64 0, .int .u8 0, .int .i64 0], 49) (by simp))
  obtain ⟨kk, hkk⟩ : ∃ kk : Int, Hid (kk = kindOf torus) := ⟨_, rfl⟩
  cases torus
  all_goals
    go_wp2_with fail
    rw [b4.out]
    go_region
    clear fp0 fp1 fp2 fp3 fp4 fp5 fp6 fp7 fp8 fp9 fp10 fq0 fq1 fq2 fq3 fq4 p0 p1 p2 p3 p4 p5 p6 p7 p8 p9 p10 q0 q1 q2 q3 q4 a1 a2 b1 b2 b3 hm1 c1 c2
    refine (fun (H : ∀ W3 : World, StripF w.heap.size born stay kk (wideOf width) w W3 → Exit.then _ _ Exit.normal _ W3) (hF : StripF w.heap.size born stay kk (wideOf width) w _) => H _ hF) ?_ ?_
    · intro W3 hF
      obtain ⟨hB, p0, p1, p2, p3, p4, p5, p6, p7, p8, p9, p10, q0, q1, q2, q3, q4⟩ := hF
      have hB' := Lib.hid hB
      clear hB
      go_wp2
      refine bodyPost_ret (v := .tuple #[lifeRule 1 (born &&& 510) (stay &&& 511), topoV kk (wideOf width : Int) 0]) ?_ rfl ⟨by rw [hkk.out], hB'.out⟩
      rw [results_cellcell rfl]
      go_simp
    · have hT := stripF_of (born := born) (stay := stay) (k := kk) (n := wideOf width) hB1.out (E1.out (w.heap.size + 1, #[.int .u8 0, .int .u8 0, .int .u16 0, .int .u16 0, .int .i64 0, .string ⟨#[]⟩, .int .i64 0, .int .u8 0, .int .u8 0, .slice none 0 0, .slice none 0 0], 46) (by simp)) (E1.out (w.heap.size + 1 + 1, #[.int .u8 0, .int .i64 0, .int .i64 0, .int .u8 0, .int .i64 0], 49) (by simp)) (#[.int .u8 1, .int .u8 1, .int .u16 ((born &&& 510 : Nat) : Int), .int .u16 ((stay &&& 511 : Nat) : Int), .int .i64 2, .string ⟨#[]⟩, .int .i64 0, .int .u8 0, .int .u8 0, .slice none 0 0, .slice none 0 0])
      rw [hkk.out] at hT ⊢
      exact hT _
end Go.Proofs.Ytigghbehnnghnaa
