import Derived.Test.YtcbhbojplcddkaaGreatDoorZBitZ
namespace Go.Proofs.YtcbhbojplcddkaaGreatDoor
open Go.RowKit Go.RowBits
set_option linter.unusedSimpArgs false
set_option linter.unusedVariables false

/-! ### topo.Check (printed by mkGdB.py) -/
abbrev topoV (k W H tn sh : Int) : Value := .agg #[.int .u8 k, .int .i64 W, .int .i64 H, .int .u8 tn, .int .i64 sh]
def TopoOk (k W H tn sh : Int) : Prop :=
  (1 ≤ k ∧ k ≤ 5) ∧ (0 ≤ W ∧ W ≤ 65536 ∧ 0 ≤ H ∧ H ≤ 65536) ∧ (k = 5 → W = H) ∧ (3 ≤ k → W ≠ 0 ∧ H ≠ 0) ∧ (k ≠ 2 ∧ k ≠ 3 → tn = 0) ∧ tn ≤ 2 ∧ (k = 3 → tn ≠ 0) ∧ (tn = 0 → sh = 0) ∧
  (tn = 1 → -W < sh ∧ sh < W) ∧ (tn = 2 → -H < sh ∧ sh < H) ∧ (tn ≠ 0 ∧ k = 2 → sh ≠ 0 ∧ W ≠ 0 ∧ H ≠ 0)
def TopoPost (W0 : World) (k W H tn sh : Int) (e : Ending) (w' : World) : Prop := ∃ r : Int, e = .returned (.int .i64 r) ∧ (r = 0 ↔ TopoOk k W H tn sh) ∧ Below W0.heap.size W0 w'
set_option maxHeartbeats 1000000 in
theorem turned58h (k W H sh : Int) (w : World) : Calls Tryz.prog 67 #[topoV k W H 2 sh] w fun e w' => e = .returned (.int .i64 H) ∧ Below w.heap.size w w' := by
  go_enter Tryz.func67, Tryz.ntmps67
  go_wp2
  go_ret
  exact ⟨rfl, below_new _⟩
set_option maxHeartbeats 1000000 in
theorem turned58w (k W H sh : Int) (w : World) : Calls Tryz.prog 67 #[topoV k W H 1 sh] w fun e w' => e = .returned (.int .i64 W) ∧ Below w.heap.size w w' := by
  go_enter Tryz.func67, Tryz.ntmps67
  go_wp2
  go_ret
  exact ⟨rfl, below_new _⟩
end Go.Proofs.YtcbhbojplcddkaaGreatDoor
namespace Go.Proofs.YtcbhbojplcddkaaGreatDoor
open Go.RowKit Go.RowBits
set_option linter.unusedSimpArgs false
set_option linter.unusedVariables false

set_option maxRecDepth 100000 in
set_option maxHeartbeats 8000000 in
theorem topo38_2 {W H tn sh : Int} (htn : tn = 0 ∨ tn = 1 ∨ tn = 2 ∨ 2 < tn) (r1 : ¬ W < 0) (r2 : ¬ 65536 < W) (r3 : ¬ H < 0) (r4 : ¬ 65536 < H) (w : World) : Calls Tryz.prog 41 #[topoV 2 W H tn sh] w (TopoPost w 2 W H tn sh) := by
  rcases htn with rfl | rfl | rfl | ht
  · skip
    by_cases e11 : sh = 0
    · have e11_ : (sh == 0) = true := by simp [e11]
      have e11n : (sh != 0) = false := by simp [e11]
      go_enter Tryz.func41, Tryz.ntmps41
      go_wp2
      all_goals
        go_ret
        exact ⟨_, rfl, by unfold TopoOk; constructor <;> intro <;> omega, below_new _⟩
    · have e11_ : (sh == 0) = false := by simp [e11]
      have e11n : (sh != 0) = true := by simp [e11]
      go_enter Tryz.func41, Tryz.ntmps41
      go_wp2
      all_goals
        go_ret
        exact ⟨_, rfl, by unfold TopoOk; constructor <;> intro <;> omega, below_new _⟩
  · skip
    by_cases c12 : sh ≤ -W
    · skip
      go_enter Tryz.func41, Tryz.ntmps41
      go_wp2_with fail
      refine (turned58w 2 W H sh _).mono ?_
      rintro e w1 ⟨rfl, hb⟩
      have hb' := Lib.hid (below_then (below_new (w := w) (.cells #[.int .u8 2, .int .i64 W, .int .i64 H, .int .u8 1, .int .i64 sh] 26)) hb (by simp))
      have hz : w.heap.size < w1.heap.size := by have := hb.size; simp at this; omega
      have hbk : w1.heap[w.heap.size]? = some (.cells #[.int .u8 2, .int .i64 W, .int .i64 H, .int .u8 1, .int .i64 sh] 26 (0, 0)) := (hb.block _ (by simp)).trans (heap_alloc_new w _)
      have d0 : w1.cell? ⟨w.heap.size, 0, none⟩ = some (.int .u8 2) := by rw [cell_of_row w1 _ 0 _ 26 (0, 0) hbk]; rfl
      have d1 : w1.cell? ⟨w.heap.size, 1, none⟩ = some (.int .i64 W) := by rw [cell_of_row w1 _ 1 _ 26 (0, 0) hbk]; rfl
      have d2 : w1.cell? ⟨w.heap.size, 2, none⟩ = some (.int .i64 H) := by rw [cell_of_row w1 _ 2 _ 26 (0, 0) hbk]; rfl
      have d3 : w1.cell? ⟨w.heap.size, 3, none⟩ = some (.int .u8 1) := by rw [cell_of_row w1 _ 3 _ 26 (0, 0) hbk]; rfl
      have d4 : w1.cell? ⟨w.heap.size, 4, none⟩ = some (.int .i64 sh) := by rw [cell_of_row w1 _ 4 _ 26 (0, 0) hbk]; rfl
      clear hb hbk
      go_wp2
      all_goals
        go_ret
        exact ⟨_, rfl, by unfold TopoOk; constructor <;> intro <;> omega, hb'.out⟩
    · skip
      by_cases c13 : W ≤ sh
      · skip
        go_enter Tryz.func41, Tryz.ntmps41
        go_wp2_with fail
        refine (turned58w 2 W H sh _).mono ?_
        rintro e w1 ⟨rfl, hb⟩
        have hb' := Lib.hid (below_then (below_new (w := w) (.cells #[.int .u8 2, .int .i64 W, .int .i64 H, .int .u8 1, .int .i64 sh] 26)) hb (by simp))
        have hz : w.heap.size < w1.heap.size := by have := hb.size; simp at this; omega
        have hbk : w1.heap[w.heap.size]? = some (.cells #[.int .u8 2, .int .i64 W, .int .i64 H, .int .u8 1, .int .i64 sh] 26 (0, 0)) := (hb.block _ (by simp)).trans (heap_alloc_new w _)
        have d0 : w1.cell? ⟨w.heap.size, 0, none⟩ = some (.int .u8 2) := by rw [cell_of_row w1 _ 0 _ 26 (0, 0) hbk]; rfl
        have d1 : w1.cell? ⟨w.heap.size, 1, none⟩ = some (.int .i64 W) := by rw [cell_of_row w1 _ 1 _ 26 (0, 0) hbk]; rfl
        have d2 : w1.cell? ⟨w.heap.size, 2, none⟩ = some (.int .i64 H) := by rw [cell_of_row w1 _ 2 _ 26 (0, 0) hbk]; rfl
        have d3 : w1.cell? ⟨w.heap.size, 3, none⟩ = some (.int .u8 1) := by rw [cell_of_row w1 _ 3 _ 26 (0, 0) hbk]; rfl
        have d4 : w1.cell? ⟨w.heap.size, 4, none⟩ = some (.int .i64 sh) := by rw [cell_of_row w1 _ 4 _ 26 (0, 0) hbk]; rfl
        clear hb hbk
        go_wp2
        all_goals
          go_ret
          exact ⟨_, rfl, by unfold TopoOk; constructor <;> intro <;> omega, hb'.out⟩
      · skip
        by_cases e14 : sh = 0
        · subst e14
          go_enter Tryz.func41, Tryz.ntmps41
          go_wp2_with fail
          refine (turned58w 2 W H 0 _).mono ?_
          rintro e w1 ⟨rfl, hb⟩
          have hb' := Lib.hid (below_then (below_new (w := w) (.cells #[.int .u8 2, .int .i64 W, .int .i64 H, .int .u8 1, .int .i64 0] 26)) hb (by simp))
          have hz : w.heap.size < w1.heap.size := by have := hb.size; simp at this; omega
          have hbk : w1.heap[w.heap.size]? = some (.cells #[.int .u8 2, .int .i64 W, .int .i64 H, .int .u8 1, .int .i64 0] 26 (0, 0)) := (hb.block _ (by simp)).trans (heap_alloc_new w _)
          have d0 : w1.cell? ⟨w.heap.size, 0, none⟩ = some (.int .u8 2) := by rw [cell_of_row w1 _ 0 _ 26 (0, 0) hbk]; rfl
          have d1 : w1.cell? ⟨w.heap.size, 1, none⟩ = some (.int .i64 W) := by rw [cell_of_row w1 _ 1 _ 26 (0, 0) hbk]; rfl
          have d2 : w1.cell? ⟨w.heap.size, 2, none⟩ = some (.int .i64 H) := by rw [cell_of_row w1 _ 2 _ 26 (0, 0) hbk]; rfl
          have d3 : w1.cell? ⟨w.heap.size, 3, none⟩ = some (.int .u8 1) := by rw [cell_of_row w1 _ 3 _ 26 (0, 0) hbk]; rfl
          have d4 : w1.cell? ⟨w.heap.size, 4, none⟩ = some (.int .i64 0) := by rw [cell_of_row w1 _ 4 _ 26 (0, 0) hbk]; rfl
          clear hb hbk
          go_wp2
          all_goals
            go_ret
            exact ⟨_, rfl, by unfold TopoOk; constructor <;> intro <;> omega, hb'.out⟩
        · have e14_ : (sh == 0) = false := by simp [e14]
          have e14n : (sh != 0) = true := by simp [e14]
          by_cases e15 : W = 0
          · subst e15
            exfalso
            omega
          · have e15_ : (W == 0) = false := by simp [e15]
            have e15n : (W != 0) = true := by simp [e15]
            by_cases e16 : H = 0
            · subst e16
              go_enter Tryz.func41, Tryz.ntmps41
              go_wp2_with fail
              refine (turned58w 2 W 0 sh _).mono ?_
              rintro e w1 ⟨rfl, hb⟩
              have hb' := Lib.hid (below_then (below_new (w := w) (.cells #[.int .u8 2, .int .i64 W, .int .i64 0, .int .u8 1, .int .i64 sh] 26)) hb (by simp))
              have hz : w.heap.size < w1.heap.size := by have := hb.size; simp at this; omega
              have hbk : w1.heap[w.heap.size]? = some (.cells #[.int .u8 2, .int .i64 W, .int .i64 0, .int .u8 1, .int .i64 sh] 26 (0, 0)) := (hb.block _ (by simp)).trans (heap_alloc_new w _)
              have d0 : w1.cell? ⟨w.heap.size, 0, none⟩ = some (.int .u8 2) := by rw [cell_of_row w1 _ 0 _ 26 (0, 0) hbk]; rfl
              have d1 : w1.cell? ⟨w.heap.size, 1, none⟩ = some (.int .i64 W) := by rw [cell_of_row w1 _ 1 _ 26 (0, 0) hbk]; rfl
              have d2 : w1.cell? ⟨w.heap.size, 2, none⟩ = some (.int .i64 0) := by rw [cell_of_row w1 _ 2 _ 26 (0, 0) hbk]; rfl
              have d3 : w1.cell? ⟨w.heap.size, 3, none⟩ = some (.int .u8 1) := by rw [cell_of_row w1 _ 3 _ 26 (0, 0) hbk]; rfl
              have d4 : w1.cell? ⟨w.heap.size, 4, none⟩ = some (.int .i64 sh) := by rw [cell_of_row w1 _ 4 _ 26 (0, 0) hbk]; rfl
              clear hb hbk
              go_wp2
              all_goals
                go_ret
                exact ⟨_, rfl, by unfold TopoOk; constructor <;> intro <;> omega, hb'.out⟩
            · have e16_ : (H == 0) = false := by simp [e16]
              have e16n : (H != 0) = true := by simp [e16]
              go_enter Tryz.func41, Tryz.ntmps41
              go_wp2_with fail
              refine (turned58w 2 W H sh _).mono ?_
              rintro e w1 ⟨rfl, hb⟩
              have hb' := Lib.hid (below_then (below_new (w := w) (.cells #[.int .u8 2, .int .i64 W, .int .i64 H, .int .u8 1, .int .i64 sh] 26)) hb (by simp))
              have hz : w.heap.size < w1.heap.size := by have := hb.size; simp at this; omega
              have hbk : w1.heap[w.heap.size]? = some (.cells #[.int .u8 2, .int .i64 W, .int .i64 H, .int .u8 1, .int .i64 sh] 26 (0, 0)) := (hb.block _ (by simp)).trans (heap_alloc_new w _)
              have d0 : w1.cell? ⟨w.heap.size, 0, none⟩ = some (.int .u8 2) := by rw [cell_of_row w1 _ 0 _ 26 (0, 0) hbk]; rfl
              have d1 : w1.cell? ⟨w.heap.size, 1, none⟩ = some (.int .i64 W) := by rw [cell_of_row w1 _ 1 _ 26 (0, 0) hbk]; rfl
              have d2 : w1.cell? ⟨w.heap.size, 2, none⟩ = some (.int .i64 H) := by rw [cell_of_row w1 _ 2 _ 26 (0, 0) hbk]; rfl
              have d3 : w1.cell? ⟨w.heap.size, 3, none⟩ = some (.int .u8 1) := by rw [cell_of_row w1 _ 3 _ 26 (0, 0) hbk]; rfl
              have d4 : w1.cell? ⟨w.heap.size, 4, none⟩ = some (.int .i64 sh) := by rw [cell_of_row w1 _ 4 _ 26 (0, 0) hbk]; rfl
              clear hb hbk
              go_wp2
              all_goals
                go_ret
                exact ⟨_, rfl, by unfold TopoOk; constructor <;> intro <;> omega, hb'.out⟩
  · skip
    by_cases c17 : sh ≤ -H
    · skip
      go_enter Tryz.func41, Tryz.ntmps41
      go_wp2_with fail
      refine (turned58h 2 W H sh _).mono ?_
      rintro e w1 ⟨rfl, hb⟩
      have hb' := Lib.hid (below_then (below_new (w := w) (.cells #[.int .u8 2, .int .i64 W, .int .i64 H, .int .u8 2, .int .i64 sh] 26)) hb (by simp))
      have hz : w.heap.size < w1.heap.size := by have := hb.size; simp at this; omega
      have hbk : w1.heap[w.heap.size]? = some (.cells #[.int .u8 2, .int .i64 W, .int .i64 H, .int .u8 2, .int .i64 sh] 26 (0, 0)) := (hb.block _ (by simp)).trans (heap_alloc_new w _)
      have d0 : w1.cell? ⟨w.heap.size, 0, none⟩ = some (.int .u8 2) := by rw [cell_of_row w1 _ 0 _ 26 (0, 0) hbk]; rfl
      have d1 : w1.cell? ⟨w.heap.size, 1, none⟩ = some (.int .i64 W) := by rw [cell_of_row w1 _ 1 _ 26 (0, 0) hbk]; rfl
      have d2 : w1.cell? ⟨w.heap.size, 2, none⟩ = some (.int .i64 H) := by rw [cell_of_row w1 _ 2 _ 26 (0, 0) hbk]; rfl
      have d3 : w1.cell? ⟨w.heap.size, 3, none⟩ = some (.int .u8 2) := by rw [cell_of_row w1 _ 3 _ 26 (0, 0) hbk]; rfl
      have d4 : w1.cell? ⟨w.heap.size, 4, none⟩ = some (.int .i64 sh) := by rw [cell_of_row w1 _ 4 _ 26 (0, 0) hbk]; rfl
      clear hb hbk
      go_wp2
      all_goals
        go_ret
        exact ⟨_, rfl, by unfold TopoOk; constructor <;> intro <;> omega, hb'.out⟩
    · skip
      by_cases c18 : H ≤ sh
      · skip
        go_enter Tryz.func41, Tryz.ntmps41
        go_wp2_with fail
        refine (turned58h 2 W H sh _).mono ?_
        rintro e w1 ⟨rfl, hb⟩
        have hb' := Lib.hid (below_then (below_new (w := w) (.cells #[.int .u8 2, .int .i64 W, .int .i64 H, .int .u8 2, .int .i64 sh] 26)) hb (by simp))
        have hz : w.heap.size < w1.heap.size := by have := hb.size; simp at this; omega
        have hbk : w1.heap[w.heap.size]? = some (.cells #[.int .u8 2, .int .i64 W, .int .i64 H, .int .u8 2, .int .i64 sh] 26 (0, 0)) := (hb.block _ (by simp)).trans (heap_alloc_new w _)
        have d0 : w1.cell? ⟨w.heap.size, 0, none⟩ = some (.int .u8 2) := by rw [cell_of_row w1 _ 0 _ 26 (0, 0) hbk]; rfl
        have d1 : w1.cell? ⟨w.heap.size, 1, none⟩ = some (.int .i64 W) := by rw [cell_of_row w1 _ 1 _ 26 (0, 0) hbk]; rfl
        have d2 : w1.cell? ⟨w.heap.size, 2, none⟩ = some (.int .i64 H) := by rw [cell_of_row w1 _ 2 _ 26 (0, 0) hbk]; rfl
        have d3 : w1.cell? ⟨w.heap.size, 3, none⟩ = some (.int .u8 2) := by rw [cell_of_row w1 _ 3 _ 26 (0, 0) hbk]; rfl
        have d4 : w1.cell? ⟨w.heap.size, 4, none⟩ = some (.int .i64 sh) := by rw [cell_of_row w1 _ 4 _ 26 (0, 0) hbk]; rfl
        clear hb hbk
        go_wp2
        all_goals
          go_ret
          exact ⟨_, rfl, by unfold TopoOk; constructor <;> intro <;> omega, hb'.out⟩
      · skip
        by_cases e19 : sh = 0
        · subst e19
          go_enter Tryz.func41, Tryz.ntmps41
          go_wp2_with fail
          refine (turned58h 2 W H 0 _).mono ?_
          rintro e w1 ⟨rfl, hb⟩
          have hb' := Lib.hid (below_then (below_new (w := w) (.cells #[.int .u8 2, .int .i64 W, .int .i64 H, .int .u8 2, .int .i64 0] 26)) hb (by simp))
          have hz : w.heap.size < w1.heap.size := by have := hb.size; simp at this; omega
          have hbk : w1.heap[w.heap.size]? = some (.cells #[.int .u8 2, .int .i64 W, .int .i64 H, .int .u8 2, .int .i64 0] 26 (0, 0)) := (hb.block _ (by simp)).trans (heap_alloc_new w _)
          have d0 : w1.cell? ⟨w.heap.size, 0, none⟩ = some (.int .u8 2) := by rw [cell_of_row w1 _ 0 _ 26 (0, 0) hbk]; rfl
          have d1 : w1.cell? ⟨w.heap.size, 1, none⟩ = some (.int .i64 W) := by rw [cell_of_row w1 _ 1 _ 26 (0, 0) hbk]; rfl
          have d2 : w1.cell? ⟨w.heap.size, 2, none⟩ = some (.int .i64 H) := by rw [cell_of_row w1 _ 2 _ 26 (0, 0) hbk]; rfl
          have d3 : w1.cell? ⟨w.heap.size, 3, none⟩ = some (.int .u8 2) := by rw [cell_of_row w1 _ 3 _ 26 (0, 0) hbk]; rfl
          have d4 : w1.cell? ⟨w.heap.size, 4, none⟩ = some (.int .i64 0) := by rw [cell_of_row w1 _ 4 _ 26 (0, 0) hbk]; rfl
          clear hb hbk
          go_wp2
          all_goals
            go_ret
            exact ⟨_, rfl, by unfold TopoOk; constructor <;> intro <;> omega, hb'.out⟩
        · have e19_ : (sh == 0) = false := by simp [e19]
          have e19n : (sh != 0) = true := by simp [e19]
          by_cases e20 : W = 0
          · subst e20
            go_enter Tryz.func41, Tryz.ntmps41
            go_wp2_with fail
            refine (turned58h 2 0 H sh _).mono ?_
            rintro e w1 ⟨rfl, hb⟩
            have hb' := Lib.hid (below_then (below_new (w := w) (.cells #[.int .u8 2, .int .i64 0, .int .i64 H, .int .u8 2, .int .i64 sh] 26)) hb (by simp))
            have hz : w.heap.size < w1.heap.size := by have := hb.size; simp at this; omega
            have hbk : w1.heap[w.heap.size]? = some (.cells #[.int .u8 2, .int .i64 0, .int .i64 H, .int .u8 2, .int .i64 sh] 26 (0, 0)) := (hb.block _ (by simp)).trans (heap_alloc_new w _)
            have d0 : w1.cell? ⟨w.heap.size, 0, none⟩ = some (.int .u8 2) := by rw [cell_of_row w1 _ 0 _ 26 (0, 0) hbk]; rfl
            have d1 : w1.cell? ⟨w.heap.size, 1, none⟩ = some (.int .i64 0) := by rw [cell_of_row w1 _ 1 _ 26 (0, 0) hbk]; rfl
            have d2 : w1.cell? ⟨w.heap.size, 2, none⟩ = some (.int .i64 H) := by rw [cell_of_row w1 _ 2 _ 26 (0, 0) hbk]; rfl
            have d3 : w1.cell? ⟨w.heap.size, 3, none⟩ = some (.int .u8 2) := by rw [cell_of_row w1 _ 3 _ 26 (0, 0) hbk]; rfl
            have d4 : w1.cell? ⟨w.heap.size, 4, none⟩ = some (.int .i64 sh) := by rw [cell_of_row w1 _ 4 _ 26 (0, 0) hbk]; rfl
            clear hb hbk
            go_wp2
            all_goals
              go_ret
              exact ⟨_, rfl, by unfold TopoOk; constructor <;> intro <;> omega, hb'.out⟩
          · have e20_ : (W == 0) = false := by simp [e20]
            have e20n : (W != 0) = true := by simp [e20]
            by_cases e21 : H = 0
            · subst e21
              exfalso
              omega
            · have e21_ : (H == 0) = false := by simp [e21]
              have e21n : (H != 0) = true := by simp [e21]
              go_enter Tryz.func41, Tryz.ntmps41
              go_wp2_with fail
              refine (turned58h 2 W H sh _).mono ?_
              rintro e w1 ⟨rfl, hb⟩
              have hb' := Lib.hid (below_then (below_new (w := w) (.cells #[.int .u8 2, .int .i64 W, .int .i64 H, .int .u8 2, .int .i64 sh] 26)) hb (by simp))
              have hz : w.heap.size < w1.heap.size := by have := hb.size; simp at this; omega
              have hbk : w1.heap[w.heap.size]? = some (.cells #[.int .u8 2, .int .i64 W, .int .i64 H, .int .u8 2, .int .i64 sh] 26 (0, 0)) := (hb.block _ (by simp)).trans (heap_alloc_new w _)
              have d0 : w1.cell? ⟨w.heap.size, 0, none⟩ = some (.int .u8 2) := by rw [cell_of_row w1 _ 0 _ 26 (0, 0) hbk]; rfl
              have d1 : w1.cell? ⟨w.heap.size, 1, none⟩ = some (.int .i64 W) := by rw [cell_of_row w1 _ 1 _ 26 (0, 0) hbk]; rfl
              have d2 : w1.cell? ⟨w.heap.size, 2, none⟩ = some (.int .i64 H) := by rw [cell_of_row w1 _ 2 _ 26 (0, 0) hbk]; rfl
              have d3 : w1.cell? ⟨w.heap.size, 3, none⟩ = some (.int .u8 2) := by rw [cell_of_row w1 _ 3 _ 26 (0, 0) hbk]; rfl
              have d4 : w1.cell? ⟨w.heap.size, 4, none⟩ = some (.int .i64 sh) := by rw [cell_of_row w1 _ 4 _ 26 (0, 0) hbk]; rfl
              clear hb hbk
              go_wp2
              all_goals
                go_ret
                exact ⟨_, rfl, by unfold TopoOk; constructor <;> intro <;> omega, hb'.out⟩
  · skip
    go_enter Tryz.func41, Tryz.ntmps41
    go_wp2
    all_goals
      go_ret
      exact ⟨_, rfl, by unfold TopoOk; constructor <;> intro <;> omega, below_new _⟩
end Go.Proofs.YtcbhbojplcddkaaGreatDoor
namespace Go.Proofs.YtcbhbojplcddkaaGreatDoor
open Go.RowKit Go.RowBits
set_option linter.unusedSimpArgs false
set_option linter.unusedVariables false

set_option maxRecDepth 100000 in
set_option maxHeartbeats 8000000 in
theorem topo38_3 {W H tn sh : Int} (htn : tn = 0 ∨ tn = 1 ∨ tn = 2 ∨ 2 < tn) (r1 : ¬ W < 0) (r2 : ¬ 65536 < W) (r3 : ¬ H < 0) (r4 : ¬ 65536 < H) (w : World) : Calls Tryz.prog 41 #[topoV 3 W H tn sh] w (TopoPost w 3 W H tn sh) := by
  by_cases e22 : W = 0
  · have e22_ : (W == 0) = true := by simp [e22]
    have e22n : (W != 0) = false := by simp [e22]
    go_enter Tryz.func41, Tryz.ntmps41
    go_wp2
    all_goals
      go_ret
      exact ⟨_, rfl, by unfold TopoOk; constructor <;> intro <;> omega, below_new _⟩
  · have e22_ : (W == 0) = false := by simp [e22]
    have e22n : (W != 0) = true := by simp [e22]
    by_cases e23 : H = 0
    · have e23_ : (H == 0) = true := by simp [e23]
      have e23n : (H != 0) = false := by simp [e23]
      go_enter Tryz.func41, Tryz.ntmps41
      go_wp2
      all_goals
        go_ret
        exact ⟨_, rfl, by unfold TopoOk; constructor <;> intro <;> omega, below_new _⟩
    · have e23_ : (H == 0) = false := by simp [e23]
      have e23n : (H != 0) = true := by simp [e23]
      rcases htn with rfl | rfl | rfl | ht
      · skip
        go_enter Tryz.func41, Tryz.ntmps41
        go_wp2
        all_goals
          go_ret
          exact ⟨_, rfl, by unfold TopoOk; constructor <;> intro <;> omega, below_new _⟩
      · skip
        by_cases c24 : sh ≤ -W
        · skip
          go_enter Tryz.func41, Tryz.ntmps41
          go_wp2_with fail
          refine (turned58w 3 W H sh _).mono ?_
          rintro e w1 ⟨rfl, hb⟩
          have hb' := Lib.hid (below_then (below_new (w := w) (.cells #[.int .u8 3, .int .i64 W, .int .i64 H, .int .u8 1, .int .i64 sh] 26)) hb (by simp))
          have hz : w.heap.size < w1.heap.size := by have := hb.size; simp at this; omega
          have hbk : w1.heap[w.heap.size]? = some (.cells #[.int .u8 3, .int .i64 W, .int .i64 H, .int .u8 1, .int .i64 sh] 26 (0, 0)) := (hb.block _ (by simp)).trans (heap_alloc_new w _)
          have d0 : w1.cell? ⟨w.heap.size, 0, none⟩ = some (.int .u8 3) := by rw [cell_of_row w1 _ 0 _ 26 (0, 0) hbk]; rfl
          have d1 : w1.cell? ⟨w.heap.size, 1, none⟩ = some (.int .i64 W) := by rw [cell_of_row w1 _ 1 _ 26 (0, 0) hbk]; rfl
          have d2 : w1.cell? ⟨w.heap.size, 2, none⟩ = some (.int .i64 H) := by rw [cell_of_row w1 _ 2 _ 26 (0, 0) hbk]; rfl
          have d3 : w1.cell? ⟨w.heap.size, 3, none⟩ = some (.int .u8 1) := by rw [cell_of_row w1 _ 3 _ 26 (0, 0) hbk]; rfl
          have d4 : w1.cell? ⟨w.heap.size, 4, none⟩ = some (.int .i64 sh) := by rw [cell_of_row w1 _ 4 _ 26 (0, 0) hbk]; rfl
          clear hb hbk
          go_wp2
          all_goals
            go_ret
            exact ⟨_, rfl, by unfold TopoOk; constructor <;> intro <;> omega, hb'.out⟩
        · skip
          by_cases c25 : W ≤ sh
          · skip
            go_enter Tryz.func41, Tryz.ntmps41
            go_wp2_with fail
            refine (turned58w 3 W H sh _).mono ?_
            rintro e w1 ⟨rfl, hb⟩
            have hb' := Lib.hid (below_then (below_new (w := w) (.cells #[.int .u8 3, .int .i64 W, .int .i64 H, .int .u8 1, .int .i64 sh] 26)) hb (by simp))
            have hz : w.heap.size < w1.heap.size := by have := hb.size; simp at this; omega
            have hbk : w1.heap[w.heap.size]? = some (.cells #[.int .u8 3, .int .i64 W, .int .i64 H, .int .u8 1, .int .i64 sh] 26 (0, 0)) := (hb.block _ (by simp)).trans (heap_alloc_new w _)
            have d0 : w1.cell? ⟨w.heap.size, 0, none⟩ = some (.int .u8 3) := by rw [cell_of_row w1 _ 0 _ 26 (0, 0) hbk]; rfl
            have d1 : w1.cell? ⟨w.heap.size, 1, none⟩ = some (.int .i64 W) := by rw [cell_of_row w1 _ 1 _ 26 (0, 0) hbk]; rfl
            have d2 : w1.cell? ⟨w.heap.size, 2, none⟩ = some (.int .i64 H) := by rw [cell_of_row w1 _ 2 _ 26 (0, 0) hbk]; rfl
            have d3 : w1.cell? ⟨w.heap.size, 3, none⟩ = some (.int .u8 1) := by rw [cell_of_row w1 _ 3 _ 26 (0, 0) hbk]; rfl
            have d4 : w1.cell? ⟨w.heap.size, 4, none⟩ = some (.int .i64 sh) := by rw [cell_of_row w1 _ 4 _ 26 (0, 0) hbk]; rfl
            clear hb hbk
            go_wp2
            all_goals
              go_ret
              exact ⟨_, rfl, by unfold TopoOk; constructor <;> intro <;> omega, hb'.out⟩
          · skip
            go_enter Tryz.func41, Tryz.ntmps41
            go_wp2_with fail
            refine (turned58w 3 W H sh _).mono ?_
            rintro e w1 ⟨rfl, hb⟩
            have hb' := Lib.hid (below_then (below_new (w := w) (.cells #[.int .u8 3, .int .i64 W, .int .i64 H, .int .u8 1, .int .i64 sh] 26)) hb (by simp))
            have hz : w.heap.size < w1.heap.size := by have := hb.size; simp at this; omega
            have hbk : w1.heap[w.heap.size]? = some (.cells #[.int .u8 3, .int .i64 W, .int .i64 H, .int .u8 1, .int .i64 sh] 26 (0, 0)) := (hb.block _ (by simp)).trans (heap_alloc_new w _)
            have d0 : w1.cell? ⟨w.heap.size, 0, none⟩ = some (.int .u8 3) := by rw [cell_of_row w1 _ 0 _ 26 (0, 0) hbk]; rfl
            have d1 : w1.cell? ⟨w.heap.size, 1, none⟩ = some (.int .i64 W) := by rw [cell_of_row w1 _ 1 _ 26 (0, 0) hbk]; rfl
            have d2 : w1.cell? ⟨w.heap.size, 2, none⟩ = some (.int .i64 H) := by rw [cell_of_row w1 _ 2 _ 26 (0, 0) hbk]; rfl
            have d3 : w1.cell? ⟨w.heap.size, 3, none⟩ = some (.int .u8 1) := by rw [cell_of_row w1 _ 3 _ 26 (0, 0) hbk]; rfl
            have d4 : w1.cell? ⟨w.heap.size, 4, none⟩ = some (.int .i64 sh) := by rw [cell_of_row w1 _ 4 _ 26 (0, 0) hbk]; rfl
            clear hb hbk
            go_wp2
            all_goals
              go_ret
              exact ⟨_, rfl, by unfold TopoOk; constructor <;> intro <;> omega, hb'.out⟩
      · skip
        by_cases c26 : sh ≤ -H
        · skip
          go_enter Tryz.func41, Tryz.ntmps41
          go_wp2_with fail
          refine (turned58h 3 W H sh _).mono ?_
          rintro e w1 ⟨rfl, hb⟩
          have hb' := Lib.hid (below_then (below_new (w := w) (.cells #[.int .u8 3, .int .i64 W, .int .i64 H, .int .u8 2, .int .i64 sh] 26)) hb (by simp))
          have hz : w.heap.size < w1.heap.size := by have := hb.size; simp at this; omega
          have hbk : w1.heap[w.heap.size]? = some (.cells #[.int .u8 3, .int .i64 W, .int .i64 H, .int .u8 2, .int .i64 sh] 26 (0, 0)) := (hb.block _ (by simp)).trans (heap_alloc_new w _)
          have d0 : w1.cell? ⟨w.heap.size, 0, none⟩ = some (.int .u8 3) := by rw [cell_of_row w1 _ 0 _ 26 (0, 0) hbk]; rfl
          have d1 : w1.cell? ⟨w.heap.size, 1, none⟩ = some (.int .i64 W) := by rw [cell_of_row w1 _ 1 _ 26 (0, 0) hbk]; rfl
          have d2 : w1.cell? ⟨w.heap.size, 2, none⟩ = some (.int .i64 H) := by rw [cell_of_row w1 _ 2 _ 26 (0, 0) hbk]; rfl
          have d3 : w1.cell? ⟨w.heap.size, 3, none⟩ = some (.int .u8 2) := by rw [cell_of_row w1 _ 3 _ 26 (0, 0) hbk]; rfl
          have d4 : w1.cell? ⟨w.heap.size, 4, none⟩ = some (.int .i64 sh) := by rw [cell_of_row w1 _ 4 _ 26 (0, 0) hbk]; rfl
          clear hb hbk
          go_wp2
          all_goals
            go_ret
            exact ⟨_, rfl, by unfold TopoOk; constructor <;> intro <;> omega, hb'.out⟩
        · skip
          by_cases c27 : H ≤ sh
          · skip
            go_enter Tryz.func41, Tryz.ntmps41
            go_wp2_with fail
            refine (turned58h 3 W H sh _).mono ?_
            rintro e w1 ⟨rfl, hb⟩
            have hb' := Lib.hid (below_then (below_new (w := w) (.cells #[.int .u8 3, .int .i64 W, .int .i64 H, .int .u8 2, .int .i64 sh] 26)) hb (by simp))
            have hz : w.heap.size < w1.heap.size := by have := hb.size; simp at this; omega
            have hbk : w1.heap[w.heap.size]? = some (.cells #[.int .u8 3, .int .i64 W, .int .i64 H, .int .u8 2, .int .i64 sh] 26 (0, 0)) := (hb.block _ (by simp)).trans (heap_alloc_new w _)
            have d0 : w1.cell? ⟨w.heap.size, 0, none⟩ = some (.int .u8 3) := by rw [cell_of_row w1 _ 0 _ 26 (0, 0) hbk]; rfl
            have d1 : w1.cell? ⟨w.heap.size, 1, none⟩ = some (.int .i64 W) := by rw [cell_of_row w1 _ 1 _ 26 (0, 0) hbk]; rfl
            have d2 : w1.cell? ⟨w.heap.size, 2, none⟩ = some (.int .i64 H) := by rw [cell_of_row w1 _ 2 _ 26 (0, 0) hbk]; rfl
            have d3 : w1.cell? ⟨w.heap.size, 3, none⟩ = some (.int .u8 2) := by rw [cell_of_row w1 _ 3 _ 26 (0, 0) hbk]; rfl
            have d4 : w1.cell? ⟨w.heap.size, 4, none⟩ = some (.int .i64 sh) := by rw [cell_of_row w1 _ 4 _ 26 (0, 0) hbk]; rfl
            clear hb hbk
            go_wp2
            all_goals
              go_ret
              exact ⟨_, rfl, by unfold TopoOk; constructor <;> intro <;> omega, hb'.out⟩
          · skip
            go_enter Tryz.func41, Tryz.ntmps41
            go_wp2_with fail
            refine (turned58h 3 W H sh _).mono ?_
            rintro e w1 ⟨rfl, hb⟩
            have hb' := Lib.hid (below_then (below_new (w := w) (.cells #[.int .u8 3, .int .i64 W, .int .i64 H, .int .u8 2, .int .i64 sh] 26)) hb (by simp))
            have hz : w.heap.size < w1.heap.size := by have := hb.size; simp at this; omega
            have hbk : w1.heap[w.heap.size]? = some (.cells #[.int .u8 3, .int .i64 W, .int .i64 H, .int .u8 2, .int .i64 sh] 26 (0, 0)) := (hb.block _ (by simp)).trans (heap_alloc_new w _)
            have d0 : w1.cell? ⟨w.heap.size, 0, none⟩ = some (.int .u8 3) := by rw [cell_of_row w1 _ 0 _ 26 (0, 0) hbk]; rfl
            have d1 : w1.cell? ⟨w.heap.size, 1, none⟩ = some (.int .i64 W) := by rw [cell_of_row w1 _ 1 _ 26 (0, 0) hbk]; rfl
            have d2 : w1.cell? ⟨w.heap.size, 2, none⟩ = some (.int .i64 H) := by rw [cell_of_row w1 _ 2 _ 26 (0, 0) hbk]; rfl
            have d3 : w1.cell? ⟨w.heap.size, 3, none⟩ = some (.int .u8 2) := by rw [cell_of_row w1 _ 3 _ 26 (0, 0) hbk]; rfl
            have d4 : w1.cell? ⟨w.heap.size, 4, none⟩ = some (.int .i64 sh) := by rw [cell_of_row w1 _ 4 _ 26 (0, 0) hbk]; rfl
            clear hb hbk
            go_wp2
            all_goals
              go_ret
              exact ⟨_, rfl, by unfold TopoOk; constructor <;> intro <;> omega, hb'.out⟩
      · skip
        go_enter Tryz.func41, Tryz.ntmps41
        go_wp2
        all_goals
          go_ret
          exact ⟨_, rfl, by unfold TopoOk; constructor <;> intro <;> omega, below_new _⟩
end Go.Proofs.YtcbhbojplcddkaaGreatDoor
