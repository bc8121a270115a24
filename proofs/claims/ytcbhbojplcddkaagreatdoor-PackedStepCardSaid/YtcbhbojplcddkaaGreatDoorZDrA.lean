import Derived.Test.YtcbhbojplcddkaaGreatDoorZPkB
import Derived.IntWalk
namespace Go.Proofs.YtcbhbojplcddkaaGreatDoor
open Go.RowKit Go.RowBits
set_option linter.unusedSimpArgs false
set_option linter.unusedVariables false

/-! ### Slices of bytes -/
def HasY (w : World) (v : Value) (l : List Nat) : Prop :=
  ∃ (ad : Option Addr) (cap : Nat), v = .slice ad l.length cap ∧ ∀ j, j < l.length → ∃ g o, ad = some ⟨g, o, none⟩ ∧ w.cell? ⟨g, o + j, none⟩ = some (.int .u8 ((l.getD j 0 : Nat) : Int))
theorem HasY.nil (w : World) : HasY w (.slice none 0 0) [] := ⟨none, 0, rfl, fun j hj => by simp at hj⟩
theorem HasY.keptB {w w' : World} {N : Nat} {v : Value} {l : List Nat} (h : HasY w v l) (hb : Below N w w') (hN : w.heap.size ≤ N) : HasY w' v l := by
  obtain ⟨ad, cap, hv, hc⟩ := h
  refine ⟨ad, cap, hv, fun j hj => ?_⟩
  obtain ⟨g, o, hg, c1⟩ := hc j hj
  exact ⟨g, o, hg, cellB hb c1 (Nat.lt_of_lt_of_le (World.block_lt_of_cell? w _ c1) hN)⟩
theorem HasY.kept {w w' : World} {v : Value} {l : List Nat} (h : HasY w v l) (hb : Below w.heap.size w w') : HasY w' v l := h.keptB hb (Nat.le_refl _)
theorem HasY.drew {w : World} {v : Value} {l : List Nat} (h : HasY w v l) : HasY w.drew v l := h.kept (Below.refl _ _).drew
theorem HasY.drawn {W : World} {v : Value} {l : List Nat} (h : HasY W v l) (m : Nat) : HasY (W.drewN m) v l := h.kept (below_drewN (Below.refl _ _) m)
theorem HasY.own {w : World} {base : Nat} {v : Value} {l : List Nat} (h : w.ownsRow base 5 1 v l.length (l.map fun x => .int .u8 ((x : Nat) : Int))) : HasY w v l := by
  rcases h.2 with ⟨hv, hn⟩ | ⟨g, cap, cur, hv, hr⟩
  · exact ⟨none, 0, by rw [hv, hn], fun j hj => by omega⟩
  · subst hv
    refine ⟨_, cap, rfl, fun j hj => ⟨g, 0, rfl, ?_⟩⟩
    rw [Nat.zero_add, h.cellAt j (by omega)]
    simp [hj]

/-! ### Blocks of bytes -/
def yv (x : Nat) : Value := .int .u8 ((x : Nat) : Int)
theorem info5' : (Tryz.prog.info? 5).map (fun i => (i.zero, i.size, i.bytes)) = some (some (.int .u8 0), 1, 1) := by kernel_rfl
theorem made_bytes (m : Nat) : madeCells #[.int .u8 0] m = ((List.replicate m 0).map yv).toArray := by
  apply Array.ext'
  rw [toList_madeCells_one]
  simp [yv]
/-- A block of bytes, known whole. -/
def YBlk (w : World) (g : Nat) (ws : List Nat) : Prop := w.heap[g]? = some (.cells (ws.map yv).toArray 5 (0, 0))
theorem YBlk.lt {w : World} {g : Nat} {ws : List Nat} (h : YBlk w g ws) : g < w.heap.size := (Array.getElem?_eq_some_iff.1 h).1
theorem YBlk.cell {w : World} {g : Nat} {ws : List Nat} (h : YBlk w g ws) {j : Nat} (hj : j < ws.length) : w.cell? ⟨g, j, none⟩ = some (.int .u8 ((ws.getD j 0 : Nat) : Int)) := by
  rw [cell_of_row w g j _ 5 (0, 0) h]
  simp [hj, yv]
theorem YBlk.frozen {w : World} {g : Nat} {ws : List Nat} (h : YBlk w g ws) (j : Nat) : w.frozen? ⟨g, j, none⟩ = false := frozen_of_row w g j _ 5 h
theorem YBlk.keptB {w w' : World} {N g : Nat} {ws : List Nat} (h : YBlk w g ws) (hb : Below N w w') (hN : g < N) : YBlk w' g ws := (hb.block g hN).trans h
theorem YBlk.kept {w w' : World} {g : Nat} {ws : List Nat} (h : YBlk w g ws) (hb : Below w.heap.size w w') : YBlk w' g ws := h.keptB hb h.lt
theorem YBlk.has {w : World} {g cap : Nat} {ws : List Nat} (h : YBlk w g ws) : HasY w (.slice (some ⟨g, 0, none⟩) ws.length cap) ws :=
  ⟨_, cap, rfl, fun j hj => ⟨g, 0, rfl, by rw [Nat.zero_add]; exact h.cell hj⟩⟩
theorem YBlk.set {w : World} {g j : Nat} {ws : List Nat} (h : YBlk w g ws) (x : Nat) : YBlk (w.setCell ⟨g, j, none⟩ (.int .u8 ((x : Nat) : Int))) g (ws.set j x) := by
  unfold YBlk
  rw [heap_setCell_same w g j _ 5 _ h, List.map_set]
  simp [yv]
theorem YBlk.setOther {w : World} {g b o : Nat} {ws : List Nat} (h : YBlk w g ws) (hne : g ≠ b) (u : Value) : YBlk (w.setCell ⟨b, o, none⟩ u) g ws := (heap_setCell_other w ⟨b, o, none⟩ g u hne).trans h
theorem YBlk.new (w : World) (cs : Array Value) (ws : List Nat) (h : cs = (ws.map yv).toArray) : YBlk (w.alloc (.cells cs 5)) w.heap.size ws := by
  rw [h]
  exact heap_alloc_new w _
theorem made_has (W : World) (n : Nat) : HasY (W.alloc (.cells (madeCells #[.int .u8 0] n) 5)) (.slice (some ⟨W.heap.size, 0, none⟩) n n) (List.replicate n 0) := by
  have := (YBlk.new W _ (List.replicate n 0) (made_bytes n)).has (cap := n)
  simpa using this
/-! ### Marks; blocks known whole -/
def markY (c : Nat → Nat) (ws : List Nat) (k : Nat) : List Nat := (List.range ws.length).map fun j => if j < k then c j else ws.getD j 0
theorem markY_len (c : Nat → Nat) (ws : List Nat) (k : Nat) : (markY c ws k).length = ws.length := by unfold markY; simp
theorem extY {a b : List Nat} (hl : a.length = b.length) (h : ∀ j, j < a.length → a.getD j 0 = b.getD j 0) : a = b := by
  apply List.ext_getElem hl
  intro j h1 h2
  have := h j h1
  simpa [h1, h2] using this
theorem markY_get (c : Nat → Nat) (ws : List Nat) {j k : Nat} (hj : j < ws.length) : (markY c ws k).getD j 0 = if j < k then c j else ws.getD j 0 := by unfold markY; simp [hj]
theorem markY_zero (c : Nat → Nat) (ws : List Nat) : markY c ws 0 = ws := by
  refine extY (markY_len _ _ _) fun j hj => ?_
  rw [markY_len] at hj
  rw [markY_get c ws hj, if_neg (by omega)]
theorem markY_succ (c : Nat → Nat) (ws : List Nat) {k : Nat} (hk : k < ws.length) : markY c ws (k + 1) = (markY c ws k).set k (c k) := by
  refine extY (by simp [markY_len]) fun j h1 => ?_
  have hj : j < ws.length := by rw [markY_len] at h1; exact h1
  rw [markY_get c ws hj]
  by_cases e : k = j
  · subst e
    rw [if_pos (by omega), getD_set_self (by rw [markY_len]; exact hk)]
  · rw [Go.RowBits.getD_set_ne e, markY_get c ws hj]
    by_cases h : j < k
    · rw [if_pos (by omega), if_pos h]
    · rw [if_neg (by omega), if_neg h]
theorem markY_full (c : Nat → Nat) (ws ws' : List Nat) (h : ws.length = ws'.length) : markY c ws ws.length = markY c ws' ws'.length := by
  refine extY (by rw [markY_len, markY_len, h]) fun j hj => ?_
  rw [markY_len] at hj
  rw [markY_get c ws hj, markY_get c ws' (by omega), if_pos hj, if_pos (by omega)]

/-! ### Blocks that are known whole -/
def Blks (w : World) (l : List (Nat × Array Value × Nat)) : Prop := ∀ x ∈ l, w.heap[x.1]? = some (.cells x.2.1 x.2.2 (0, 0))
theorem Blks.lt {w : World} {l : List (Nat × Array Value × Nat)} (h : Blks w l) {x : Nat × Array Value × Nat} (hx : x ∈ l) : x.1 < w.heap.size := (Array.getElem?_eq_some_iff.1 (h x hx)).1
theorem Blks.kept {w w' : World} {l : List (Nat × Array Value × Nat)} (h : Blks w l) (hb : Below w.heap.size w w') : Blks w' l := fun x hx => (hb.block x.1 (h.lt hx)).trans (h x hx)
theorem Blks.nil (w : World) : Blks w [] := fun x hx => by cases hx
theorem Blks.alloc {w : World} {l : List (Nat × Array Value × Nat)} (h : Blks w l) {n : Nat} (hn : w.heap.size = n) (cs : Array Value) (T : Nat) : Blks (w.alloc (.cells cs T)) ((n, cs, T) :: l) := by
  subst hn
  intro y hy
  rcases List.mem_cons.1 hy with rfl | hy
  · exact heap_alloc_new w _
  · exact (h.kept (below_new _)) y hy
theorem Blks.cell {w : World} {l : List (Nat × Array Value × Nat)} (h : Blks w l) {b j : Nat} {cs : Array Value} {T : Nat} {u : Value} (hx : (b, cs, T) ∈ l) (hj : cs[j]? = some u) : w.cell? ⟨b, j, none⟩ = some u := by
  rw [cell_of_row w b j cs T (0, 0) (h _ hx), hj]

end Go.Proofs.YtcbhbojplcddkaaGreatDoor
namespace Go.Proofs.YtcbhbojplcddkaaGreatDoor
open Go.RowKit Go.RowBits
set_option linter.unusedSimpArgs false
set_option linter.unusedVariables false

/-! ### A field's block; what only looks at it -/
abbrev fieldC (w h s : Nat) (pk : Bool) (T : TypeId) (u : Value) : Array Value := #[.int .i64 (w : Int), .int .i64 (h : Int), .int .i64 (s : Int), .bool pk, .iface T u]
/-- A field's block, with a store of the type T. -/
def FBlk (W : World) (fb w h s : Nat) (pk : Bool) (T : TypeId) (u : Value) : Prop := W.heap[fb]? = some (.cells (fieldC w h s pk T u) 95 (0, 0))
section
variable {W W' : World} {fb w h s : Nat} {pk : Bool} {T : TypeId} {u : Value}
theorem FBlk.lt (hf : FBlk W fb w h s pk T u) : fb < W.heap.size := (Array.getElem?_eq_some_iff.1 hf).1
theorem FBlk.kept (hf : FBlk W fb w h s pk T u) (hb : Below W.heap.size W W') : FBlk W' fb w h s pk T u := (hb.block fb hf.lt).trans hf
theorem FBlk.cell (hf : FBlk W fb w h s pk T u) {j : Nat} {v : Value} (hj : (fieldC w h s pk T u)[j]? = some v) : W.cell? ⟨fb, j, none⟩ = some v := by rw [cell_of_row W fb j _ 95 (0, 0) hf, hj]
set_option maxHeartbeats 1000000 in
theorem none33 (hf : FBlk W fb w h s pk T u) : Calls Tryz.prog 32 #[.pointer (some ⟨fb, 0, none⟩)] W fun e w' => e = .returned (.bool false) ∧ w' = W := by
  have c : W.cell? ⟨fb, 4, none⟩ = some (.iface T u) := hf.cell rfl
  clear hf
  go_enter Tryz.func32, Tryz.ntmps32
  go_wp2
  go_ret
  exact ⟨rfl, rfl⟩
set_option maxHeartbeats 1000000 in
theorem none33n (W : World) : Calls Tryz.prog 32 #[.pointer none] W fun e w' => e = .returned (.bool true) ∧ w' = W := by
  go_enter Tryz.func32, Tryz.ntmps32
  go_wp2
  go_ret
  exact ⟨rfl, rfl⟩
set_option maxHeartbeats 1000000 in
theorem none33z (hc : W.cell? ⟨fb, 4, none⟩ = some .nilIface) : Calls Tryz.prog 32 #[.pointer (some ⟨fb, 0, none⟩)] W fun e w' => e = .returned (.bool true) ∧ w' = W := by
  go_enter Tryz.func32, Tryz.ntmps32
  go_wp2
  go_ret
  exact ⟨rfl, rfl⟩
set_option maxHeartbeats 1000000 in
theorem w37 (hf : FBlk W fb w h s pk T u) : Calls Tryz.prog 40 #[.pointer (some ⟨fb, 0, none⟩)] W fun e w' => e = .returned (.int .i64 (w : Int)) ∧ w' = W := by
  have K := Lib.hid (none33 hf)
  have c : W.cell? ⟨fb, 0, none⟩ = some (.int .i64 (w : Int)) := hf.cell rfl
  clear hf
  go_enter Tryz.func40, Tryz.ntmps40
  go_wp2_with fail
  refine (K.out).mono ?_
  rintro e w' ⟨rfl, hw'⟩
  subst w'
  go_wp2
  go_ret
  exact ⟨rfl, rfl⟩
set_option maxHeartbeats 1000000 in
theorem h39 (hf : FBlk W fb w h s pk T u) : Calls Tryz.prog 42 #[.pointer (some ⟨fb, 0, none⟩)] W fun e w' => e = .returned (.int .i64 (h : Int)) ∧ w' = W := by
  have K := Lib.hid (none33 hf)
  have c : W.cell? ⟨fb, 1, none⟩ = some (.int .i64 (h : Int)) := hf.cell rfl
  clear hf
  go_enter Tryz.func42, Tryz.ntmps42
  go_wp2_with fail
  refine (K.out).mono ?_
  rintro e w' ⟨rfl, hw'⟩
  subst w'
  go_wp2
  go_ret
  exact ⟨rfl, rfl⟩
set_option maxHeartbeats 1000000 in
theorem states40 (hf : FBlk W fb w h s pk T u) : Calls Tryz.prog 43 #[.pointer (some ⟨fb, 0, none⟩)] W fun e w' => e = .returned (.int .i64 (s : Int)) ∧ w' = W := by
  have K := Lib.hid (none33 hf)
  have c : W.cell? ⟨fb, 2, none⟩ = some (.int .i64 (s : Int)) := hf.cell rfl
  clear hf
  go_enter Tryz.func43, Tryz.ntmps43
  go_wp2_with fail
  refine (K.out).mono ?_
  rintro e w' ⟨rfl, hw'⟩
  subst w'
  go_wp2
  go_ret
  exact ⟨rfl, rfl⟩
set_option maxHeartbeats 1000000 in
theorem packed14 (hf : FBlk W fb w h s pk T u) : Calls Tryz.prog 8 #[.pointer (some ⟨fb, 0, none⟩)] W fun e w' => e = .returned (.bool pk) ∧ w' = W := by
  have K := Lib.hid (none33 hf)
  have c : W.cell? ⟨fb, 3, none⟩ = some (.bool pk) := hf.cell rfl
  clear hf
  go_enter Tryz.func8, Tryz.ntmps8
  go_wp2_with fail
  refine (K.out).mono ?_
  rintro e w' ⟨rfl, hw'⟩
  subst w'
  go_wp2
  go_ret
  exact ⟨rfl, rfl⟩
end
abbrev shapeV (w h s : Nat) : Value := .agg #[.int .i64 (w : Int), .int .i64 (h : Int), .int .i64 (s : Int)]
def hasB (w h : Nat) (x y : Int) : Bool := decide (0 ≤ x ∧ x < (w : Int) ∧ 0 ≤ y ∧ y < (h : Int))
set_option maxHeartbeats 1000000 in
theorem has53 (w h s : Nat) (x y : Int) (W : World) : Calls Tryz.prog 34 #[shapeV w h s, .int .i64 x, .int .i64 y] W fun e w' => e = .returned (.bool (hasB w h x y)) ∧ Below W.heap.size W w' := by
  by_cases h1 : 0 ≤ x
  · by_cases h2 : x < (w : Int)
    · by_cases h3 : 0 ≤ y
      · by_cases h4 : y < (h : Int)
        · have hF : Hid (hasB w h x y = true) := by show _ = _; unfold hasB; exact decide_eq_true ⟨h1, h2, h3, h4⟩
          go_enter Tryz.func34, Tryz.ntmps34
          go_wp2
          go_ret
          exact ⟨by rw [hF.out]; rfl, below_new _⟩
        · have hF : Hid (hasB w h x y = false) := by show _ = _; unfold hasB; exact decide_eq_false (by omega)
          go_enter Tryz.func34, Tryz.ntmps34
          go_wp2
          go_ret
          exact ⟨by rw [hF.out]; rfl, below_new _⟩
      · have hF : Hid (hasB w h x y = false) := by show _ = _; unfold hasB; exact decide_eq_false (by omega)
        go_enter Tryz.func34, Tryz.ntmps34
        go_wp2
        go_ret
        exact ⟨by rw [hF.out]; rfl, below_new _⟩
    · have hF : Hid (hasB w h x y = false) := by show _ = _; unfold hasB; exact decide_eq_false (by omega)
      go_enter Tryz.func34, Tryz.ntmps34
      go_wp2
      go_ret
      exact ⟨by rw [hF.out]; rfl, below_new _⟩
  · have hF : Hid (hasB w h x y = false) := by show _ = _; unfold hasB; exact decide_eq_false (by omega)
    go_enter Tryz.func34, Tryz.ntmps34
    go_wp2
    go_ret
    exact ⟨by rw [hF.out]; rfl, below_new _⟩
set_option maxHeartbeats 1000000 in
theorem knows54 (w h s x : Nat) (hx2 : x < 256) (W : World) : Calls Tryz.prog 35 #[shapeV w h s, .int .u8 (x : Int)] W fun e w' => e = .returned (.bool (decide ((x : Int) < (s : Int)))) ∧ Below W.heap.size W w' := by
  by_cases hx : (x : Int) < (s : Int)
  · rw [decide_eq_true hx]
    go_enter Tryz.func35, Tryz.ntmps35
    go_wp2
    go_ret
    exact ⟨rfl, below_new _⟩
  · rw [decide_eq_false hx]
    go_enter Tryz.func35, Tryz.ntmps35
    go_wp2
    go_ret
    exact ⟨rfl, below_new _⟩
end Go.Proofs.YtcbhbojplcddkaaGreatDoor
