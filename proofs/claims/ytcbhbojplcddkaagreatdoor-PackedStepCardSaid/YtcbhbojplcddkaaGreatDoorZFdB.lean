import Derived.Test.YtcbhbojplcddkaaGreatDoorZDrA
import Derived.Maps.OwnSet
namespace Go.Proofs.YtcbhbojplcddkaaGreatDoor
open Go.RowKit Go.RowBits
set_option linter.unusedSimpArgs false
set_option linter.unusedVariables false

/-! ### Stores of bytes: a row's slice each, all in blocks from B on -/
/-- A row: its block, its capacity. -/
structure StY (B : Nat) (W : World) (gr cap w : Nat) (cells : List (List Nat)) (gs cs : Nat → Nat) : Prop where
  rows : W.ownsRow B 51 1 (.slice (some ⟨gr, 0, none⟩) cells.length cap) cells.length ((List.range cells.length).map fun y => .slice (some ⟨gs y, 0, none⟩) w (cs y))
  row : ∀ y, y < cells.length → W.ownsRow B 5 1 (.slice (some ⟨gs y, 0, none⟩) w (cs y)) w ((cells.getD y []).map yv)
  sep : ∀ y z, y < cells.length → z < cells.length → y ≠ z → gs y ≠ gs z
  pos : 0 < cells.length ∧ 0 < w
section
variable {B : Nat} {W W' : World} {gr cap w : Nat} {cells : List (List Nat)} {gs cs : Nat → Nat}
theorem own_slice {e : TypeId} {size g n cap : Nat} {xs : List Value} (h : W.ownsRow B e size (.slice (some ⟨g, 0, none⟩) n cap) n xs) : B ≤ g ∧ n ≤ cap ∧ ∃ cur : Array Value, W.heap[g]? = some (.cells cur e (0, 0)) ∧ cur.size = cap * size ∧ cur.toList.take (n * size) = xs := by
  rcases h.2 with ⟨e1, _⟩ | ⟨g', cp, cur, e1, h1, h2, h3, _, h4, h5⟩
  · cases e1
  · injection e1 with e1 e2 e3
    injection e1 with e1
    injection e1 with e1 e4
    subst e1 e3
    exact ⟨h1, h3, cur, h2, h4, h5⟩
theorem StY.len (h : StY B W gr cap w cells gs cs) {y : Nat} (hy : y < cells.length) : (cells.getD y []).length = w := by
  have := (h.row y hy).1
  simpa using this
theorem StY.kept (h : StY B W gr cap w cells gs cs) (hb : Below W.heap.size W W') : StY B W' gr cap w cells gs cs :=
  ⟨own_below h.rows hb, fun y hy => own_below (h.row y hy) hb, h.sep, h.pos⟩
theorem StY.rowCell (h : StY B W gr cap w cells gs cs) {y : Nat} (hy : y < cells.length) : W.cell? ⟨gr, y, none⟩ = some (.slice (some ⟨gs y, 0, none⟩) w (cs y)) := by
  rw [h.rows.cellAt y (by omega)]
  simp [hy]
theorem StY.cell (h : StY B W gr cap w cells gs cs) {y x : Nat} (hy : y < cells.length) (hx : x < w) : W.cell? ⟨gs y, x, none⟩ = some (.int .u8 (((cells.getD y []).getD x 0 : Nat) : Int)) := by
  have hl := h.len hy
  rw [(h.row y hy).cellAt x (by omega)]
  have : x < (cells.getD y []).length := by omega
  generalize cells.getD y [] = r at *
  simp [this, yv]
theorem StY.frozen (h : StY B W gr cap w cells gs cs) {y : Nat} (hy : y < cells.length) (x : Nat) : W.frozen? ⟨gs y, x, none⟩ = false := by
  obtain ⟨_, _, cur, h2, _⟩ := own_slice (h.row y hy)
  exact frozen_of_row W _ x cur 5 h2
/-- A cell of a store is another one. -/
def setAt (cells : List (List Nat)) (x y s : Nat) : List (List Nat) := cells.set y ((cells.getD y []).set x s)
theorem setAt_len (cells : List (List Nat)) (x y s : Nat) : (setAt cells x y s).length = cells.length := by unfold setAt; simp
theorem setAt_get (cells : List (List Nat)) (x s : Nat) {y z : Nat} (hz : z < cells.length) : (setAt cells x y s).getD z [] = if y = z then (cells.getD y []).set x s else cells.getD z [] := by
  unfold setAt
  by_cases e : y = z
  · subst e; rw [if_pos rfl]; simp [hz]
  · rw [if_neg e]; simp [List.getD, List.getElem?_set, e]
theorem own_other {e : TypeId} {size : Nat} {v : Value} {n : Nat} {xs : List Value} (h : W.ownsRow B e size v n xs) {b o : Nat} (hb : v.ownBlock ≠ some b) (u : Value) : (W.setCell ⟨b, o, none⟩ u).ownsRow B e size v n xs := by
  refine ⟨h.1, ?_⟩
  rcases h.2 with h0 | ⟨g, cap, cur, h1, h2, h3, h4⟩
  · exact .inl h0
  · refine .inr ⟨g, cap, cur, h1, h2, (heap_setCell_other W ⟨b, o, none⟩ g u (fun e => hb (by rw [h1, e]; rfl))).trans h3, h4⟩
theorem own_setSame {g n cap x s : Nat} {l : List Nat} (h : W.ownsRow B 5 1 (.slice (some ⟨g, 0, none⟩) n cap) n (l.map yv)) (hx : x < n) : (W.setCell ⟨g, x, none⟩ (.int .u8 ((s : Nat) : Int))).ownsRow B 5 1 (.slice (some ⟨g, 0, none⟩) n cap) n ((l.set x s).map yv) := by
  obtain ⟨h1, h2, cur, h3, h4, h5⟩ := own_slice h
  have hm : cap ≤ maxLen := by
    rcases h.2 with ⟨e1, _⟩ | ⟨g', cp, cur', e1, _, _, _, hm, _⟩
    · cases e1
    · injection e1 with _ _ e3
      omega
  refine ⟨by have := h.1; simpa using this, .inr ⟨g, cap, cur.setIfInBounds x (.int .u8 ((s : Nat) : Int)), rfl, h1, heap_setCell_same W g x cur 5 _ h3, h2, hm, by simpa using h4, ?_⟩⟩
  rw [List.map_set, ← h5]
  simp [List.take_set, yv]
theorem StY.set (h : StY B W gr cap w cells gs cs) {x y : Nat} (hx : x < w) (hy : y < cells.length) (s : Nat) : StY B (W.setCell ⟨gs y, x, none⟩ (.int .u8 ((s : Nat) : Int))) gr cap w (setAt cells x y s) gs cs := by
  have hgr : gr ≠ gs y := fun e => by
    obtain ⟨_, _, c1, q1, _⟩ := own_slice h.rows
    obtain ⟨_, _, c2, q2, _⟩ := own_slice (h.row y hy)
    rw [e, q2] at q1
    injection q1 with q1
    injection q1 with _ q1 _
    cases q1
  refine ⟨?_, fun z hz => ?_, fun a b ha hb => h.sep a b (by rwa [setAt_len] at ha) (by rwa [setAt_len] at hb), by rw [setAt_len]; exact h.pos⟩
  · rw [setAt_len]
    exact own_other h.rows (fun e => hgr (by injection e)) _
  · rw [setAt_len] at hz
    rw [setAt_get _ _ _ hz]
    by_cases e : y = z
    · subst e
      rw [if_pos rfl]
      exact own_setSame (h.row y hy) hx
    · rw [if_neg e]
      exact own_other (h.row z hz) (fun q => h.sep z y hz hy (fun e' => e e'.symm) (by injection q)) _
set_option maxHeartbeats 1000000 in
theorem get104 (h : StY B W gr cap w cells gs cs) {x y : Nat} (hx : x < w) (hy : y < cells.length) : Calls Tryz.prog 118 #[.agg #[.slice (some ⟨gr, 0, none⟩) cells.length cap], .int .i64 (x : Int), .int .i64 (y : Int)] W fun e w' => e = .returned (.int .u8 (((cells.getD y []).getD x 0 : Nat) : Int)) ∧ Below W.heap.size W w' := by
  have c1 := h.rowCell hy
  have c2 := h.cell hy hx
  have hz1 := World.block_lt_of_cell? W _ c1
  have hz2 := World.block_lt_of_cell? W _ c2
  generalize (cells.getD y []).getD x 0 = q at *
  generalize gs y = gy at *
  generalize cs y = cy at *
  have hn1 : gr < W.heap.size := hz1
  have hn2 : gy < W.heap.size := hz2
  clear h hz1 hz2
  go_enter Tryz.func118, Tryz.ntmps118
  go_wp2
  go_ret
  exact ⟨rfl, below_new _⟩
theorem grown_setCell (W : World) (b o : Nat) (v : Value) : W.grownBy (W.setCell ⟨b, o, none⟩ v) (some b) :=
  ⟨rfl, rfl, rfl, by simp, fun k hk hne => heap_setCell_other W ⟨b, o, none⟩ k v (fun e => hne (congrArg some e))⟩
theorem set105 (h : StY B W gr cap w cells gs cs) {x y s : Nat} (hx : x < w) (hy : y < cells.length) : Calls Tryz.prog 119 #[.agg #[.slice (some ⟨gr, 0, none⟩) cells.length cap], .int .i64 (x : Int), .int .i64 (y : Int), .int .u8 (s : Int)] W fun e w' => (∃ v, e = .returned v) ∧ StY B w' gr cap w (setAt cells x y s) gs cs ∧ W.grownBy w' (some (gs y)) := by
  have hA : ∀ o : Obj, Below W.heap.size W (W.alloc o) := fun o => below_new _
  have FIN : Hid (∀ o : Obj, StY B ((W.setCell ⟨gs y, x, none⟩ (.int .u8 (s : Int))).alloc o) gr cap w (setAt cells x y s) gs cs ∧ W.grownBy ((W.setCell ⟨gs y, x, none⟩ (.int .u8 (s : Int))).alloc o) (some (gs y))) := fun o =>
    ⟨(h.set hx hy s).kept (below_new _), (grown_setCell W (gs y) x _).trans ⟨rfl, rfl, rfl, by simp, fun k hk _ => (below_new (w := W.setCell ⟨gs y, x, none⟩ (.int .u8 (s : Int))) o).block k hk⟩⟩
  have c1 := h.rowCell hy
  have c2 := h.cell hy hx
  have c3 := h.frozen hy x
  have hz1 := World.block_lt_of_cell? W _ c1
  have hz2 := World.block_lt_of_cell? W _ c2
  generalize (cells.getD y []).getD x 0 = q at *
  generalize gs y = gy at *
  generalize cs y = cy at *
  have hn1 : gr < W.heap.size := hz1
  have hn2 : gy < W.heap.size := hz2
  clear h hz1 hz2 hA
  go_enter Tryz.func119, Tryz.ntmps119
  go_wp2
  go_end0
  exact ⟨⟨_, rfl⟩, FIN.out _⟩
end
end Go.Proofs.YtcbhbojplcddkaaGreatDoor
