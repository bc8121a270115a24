import Derived.Test.YtigghbehnnghnaaRlC
import Derived.Test.YtigghbehnnghnaaPkI
namespace Go.Proofs.Ytigghbehnnghnaa
open Go.RowKit Go.RowBits
set_option linter.unusedSimpArgs false
set_option linter.unusedVariables false

/-! ### Quiet -/
def yv (x : Nat) : Value := .int .u8 ((x : Nat) : Int)
theorem info5' : (Try.prog.info? 5).map (fun i => (i.zero, i.size, i.bytes)) = some (some (.int .u8 0), 1, 1) := by kernel_rfl
theorem made_bytes (m : Nat) : madeCells #[.int .u8 0] m = ((List.replicate m 0).map yv).toArray := by
  apply Array.ext'
  rw [toList_madeCells_one]
  simp [yv]
/-- A block of bytes, known whole. -/
def YBlk (w : World) (g : Nat) (ws : List Nat) : Prop := w.heap[g]? = some (.cells (ws.map yv).toArray 5 (0, 0))
theorem YBlk.lt {w : World} {g : Nat} {ws : List Nat} (h : YBlk w g ws) : g < w.heap.size := (Array.getElem?_eq_some_iff.1 h).1
theorem YBlk.cell {w : World} {g : Nat} {ws : List Nat} (h : YBlk w g ws) {j : Nat} (hj : j < ws.length) : w.cell? ⟨g, j, none⟩ = some (.int .u8 ((ws.getD j 0 : Nat) : Int)) := by
  rw [cell_of_row w g j _ 5 (0, 0) h]
  simp [hj, yv]
theorem YBlk.frozen {w : World} {g : Nat} {ws : List Nat} (h : YBlk w g ws) (j : Nat) : w.frozen? ⟨g, j, none⟩ = false := frozen_of_row w g j _ 5 h
theorem YBlk.keptB {w w' : World} {N g : Nat} {ws : List Nat} (h : YBlk w g ws) (hb : Below N w w') (hN : g < N) : YBlk w' g ws := (hb.block g hN).trans h
theorem YBlk.kept {w w' : World} {g : Nat} {ws : List Nat} (h : YBlk w g ws) (hb : Below w.heap.size w w') : YBlk w' g ws := h.keptB hb h.lt
theorem YBlk.has {w : World} {g cap : Nat} {ws : List Nat} (h : YBlk w g ws) : HasY w (.slice (some ⟨g, 0, none⟩) ws.length cap) ws :=
  ⟨_, cap, rfl, fun j hj => ⟨g, 0, rfl, by rw [Nat.zero_add]; exact h.cell hj⟩⟩
theorem YBlk.set {w : World} {g j : Nat} {ws : List Nat} (h : YBlk w g ws) (x : Nat) : YBlk (w.setCell ⟨g, j, none⟩ (.int .u8 ((x : Nat) : Int))) g (ws.set j x) := by
  unfold YBlk
  rw [heap_setCell_same w g j _ 5 _ h, List.map_set]
  simp [yv]
theorem YBlk.setOther {w : World} {g b o : Nat} {ws : List Nat} (h : YBlk w g ws) (hne : g ≠ b) (u : Value) : YBlk (w.setCell ⟨b, o, none⟩ u) g ws := (heap_setCell_other w ⟨b, o, none⟩ g u hne).trans h
theorem YBlk.new (w : World) (cs : Array Value) (ws : List Nat) (h : cs = (ws.map yv).toArray) : YBlk (w.alloc (.cells cs 5)) w.heap.size ws := by
  rw [h]
  exact heap_alloc_new w _
theorem made_has (W : World) (n : Nat) : HasY (W.alloc (.cells (madeCells #[.int .u8 0] n) 5)) (.slice (some ⟨W.heap.size, 0, none⟩) n n) (List.replicate n 0) := by
  have := (YBlk.new W _ (List.replicate n 0) (made_bytes n)).has (cap := n)
  simpa using this
theorem ones_zero (n : Nat) : ones (List.replicate n 0) = 0 := by
  unfold ones
  rw [List.count_replicate]
  simp

theorem nil_next (h : Int) (born stay : Nat) (w : World) : Sem.run Try.prog (nilAhead 332 167 (lifeV h born stay) "vivarium/rule.next") w = .ok (some false) w := by kernel_rfl
set_option maxRecDepth 20000 in
set_option maxHeartbeats 4000000 in
theorem quiet57 {h : Int} {born stay : Nat} {w : World} (hb1 : born < 65536) (hs1 : stay < 65536) (hE : lifeE h born stay = 0) (hh : h = 1 ∨ h = 2 ∨ h = 3) (hr : ruleOk h born stay) (h0 : born.testBit 0 = false) :
    Calls Try.prog 57 #[lifeRule h born stay] w fun e w' => e = .returned (.tuple #[.bool true, .int .i64 0]) ∧ Below w.heap.size w w' := by
  have hl8 := offs_len h
  have K1 := Lib.hid (fun W => may72 hb1 hs1 hE W)
  have K3 := Lib.hid (fun W => size82 (h := h) (born := born) (stay := stay) W)
  have K50 := fun W v (hv : HasY W v (List.replicate (offs h).length 0)) => b115 (w := W) false hh hr hb1 hs1 (by simp) hv
  rw [show (if false = true then 1 else 0 : Int) = 0 from rfl, ones_zero, show lineBit born stay 0 false = false from h0, show (if false = true then 1 else 0 : Int) = 0 from rfl] at K50
  have K5 := Lib.hid K50
  have hmk := fun n => run_make_row' (P := Try.prog) 53 5 (.int .u8 0) 1 Try.underlying53 info5' rfl .i64 .i64 n
  clear hE K50 hh hr h0
  generalize (offs h).length = n at *
  have hmk' : ∀ W, (Instr.makeSlice 53 (.int .i64 (n : Int)) (.int .i64 (n : Int))).run Try.prog W = .ok (.slice (some ⟨W.heap.size, 0, none⟩) n n) (W.alloc (.cells (madeCells #[.int .u8 0] n) 5)) := fun W => hmk n (by omega) (by omega) W
  clear hmk
  have hnil := nil_next h born stay
  go_enter Try.func57, Try.ntmps57
  go_wp2_with fail
  refine (K1.out _).mono ?_
  rintro e w1 ⟨rfl, hb⟩
  have hB1 := Lib.hid (below_then (B := w.heap.size) (below_new _) hb (by simp))
  have hz1 : w.heap.size ≤ w1.heap.size := hB1.out.size
  clear hb
  go_upto_region 4 with fail
  go_region_with (first
    | (go_at_call 82; refine (K3.out _).mono ?_; rintro e w2 ⟨rfl, hb⟩; have hB2 := Lib.hid (below_then (hB1.out.drew) hb (by simpa using hz1)); clear hb)
    | (go_at_call 115; refine (K5.out _ _ (made_has _ _)).mono ?_; rintro e w3 ⟨rfl, hb⟩; have hB3 := Lib.hid hb; clear hb))
  all_goals
    go_wp2
    go_ret2
    exact ⟨rfl, below_then (hB2.out.alloc hB2.out.size _) hB3.out (by have := hB2.out.size; simp; omega)⟩
end Go.Proofs.Ytigghbehnnghnaa
