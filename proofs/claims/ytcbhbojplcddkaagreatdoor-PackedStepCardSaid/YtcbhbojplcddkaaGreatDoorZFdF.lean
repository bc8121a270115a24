import Derived.Test.YtcbhbojplcddkaaGreatDoorZFdD
import Derived.Deep.AppendLies
import Derived.Deep.RegionLaw
namespace Go.Proofs.YtcbhbojplcddkaaGreatDoor
open Go.RowKit Go.RowBits
set_option linter.unusedSimpArgs false
set_option linter.unusedVariables false

/-! ### A store of bytes, copied -/
theorem info51' : (Tryz.prog.info? 51).map (fun i => (i.zero, i.size, i.bytes)) = some (some (.slice none 0 0), 1, 24) := by kernel_rfl
theorem made_slices (m : Nat) : madeCells #[.slice none 0 0] m = (List.replicate m (Value.slice none 0 0)).toArray := by
  apply Array.ext'
  rw [toList_madeCells_one]
/-- The rows' block while it is filled. -/
def partR (w : Nat) (gs cs : Nat → Nat) (h k : Nat) : List Value := (List.range h).map fun y => if y < k then .slice (some ⟨gs y, 0, none⟩) w (cs y) else .slice none 0 0
theorem partR_zero (w : Nat) (gs cs : Nat → Nat) (h : Nat) : partR w gs cs h 0 = List.replicate h (.slice none 0 0) := by
  unfold partR
  apply List.ext_getElem (by simp)
  intro j h1 h2
  simp
theorem partR_get (w : Nat) (gs cs : Nat → Nat) {h k j : Nat} (hj : j < h) : (partR w gs cs h k)[j]? = some (if j < k then .slice (some ⟨gs j, 0, none⟩) w (cs j) else .slice none 0 0) := by unfold partR; simp [hj]
theorem partR_len (w : Nat) (gs cs : Nat → Nat) (h k : Nat) : (partR w gs cs h k).length = h := by unfold partR; simp
theorem partR_set (w : Nat) (gs cs : Nat → Nat) {h k g c : Nat} (hk : k < h) : (partR w gs cs h k).set k (.slice (some ⟨g, 0, none⟩) w c) = partR w (fun y => if y = k then g else gs y) (fun y => if y = k then c else cs y) h (k + 1) := by
  apply List.ext_getElem (by simp [partR_len])
  intro j h1 h2
  have hj : j < h := by rw [List.length_set, partR_len] at h1; exact h1
  apply Option.some_inj.1
  rw [← List.getElem?_eq_getElem h1, ← List.getElem?_eq_getElem h2, List.getElem?_set, partR_get _ _ _ hj, partR_len]
  by_cases e : k = j
  · subst e
    rw [if_pos rfl, if_pos hk, partR_get _ _ _ hk]
    simp
  · have e' : ¬ j = k := fun q => e q.symm
    rw [if_neg e, partR_get _ _ _ hj, if_neg e', if_neg e']
    by_cases h3 : j < k
    · rw [if_pos h3, if_pos (by omega)]
    · rw [if_neg h3, if_neg (by omega)]
def CyRel (W0 : World) (b3 g3 w : Nat) (cells : List (List Nat)) (i : Value) (wx : World) : Prop :=
  ∃ (k : Nat) (gs cs : Nat → Nat), k ≤ cells.length ∧ i = .int .i64 (k : Int) ∧ Below W0.heap.size W0 wx ∧ b3 < wx.heap.size ∧ wx.heap[b3]? = some (.cells #[.slice (some ⟨g3, 0, none⟩) cells.length cells.length] 151 (0, 0)) ∧
    wx.heap[g3]? = some (.cells (partR w gs cs cells.length k).toArray 51 (0, 0)) ∧ (∀ y, y < k → wx.ownsRow (b3 + 1) 5 1 (.slice (some ⟨gs y, 0, none⟩) w (cs y)) w ((cells.getD y []).map yv)) ∧ (∀ y z, y < k → z < k → y ≠ z → gs y ≠ gs z)
theorem StY.news {B : Nat} {W : World} {gr cap w : Nat} {cells : List (List Nat)} {gs cs : Nat → Nat} (h : StY B W gr cap w cells gs cs) {y : Nat} (hy : y < cells.length) : ∀ (j : Nat) u, ((cells.getD y []).map yv)[j]? = some u → W.cell? ((⟨gs y, 0, none⟩ : Addr).add j) = some u := fun j u hj => by
  have hl := h.len hy
  have hjl : j < w := by
    have := (List.getElem?_eq_some_iff.1 hj).1
    rw [List.length_map] at this
    omega
  rw [Addr.add_lit, Nat.zero_add, h.cell hy hjl, ← hj]
  generalize cells.getD y [] = r at *
  have : j < r.length := by omega
  simp [this, yv]
theorem own_lower {W : World} {B B' : Nat} {e : TypeId} {size : Nat} {v : Value} {n : Nat} {xs : List Value} (h : W.ownsRow B e size v n xs) (hb : B' ≤ B) : W.ownsRow B' e size v n xs := by
  refine ⟨h.1, ?_⟩
  rcases h.2 with h0 | ⟨g, cap, cur, h1, h2, h3⟩
  · exact .inl h0
  · exact .inr ⟨g, cap, cur, h1, Nat.le_trans hb h2, h3⟩
theorem yv_cells (l : List Nat) : ∀ u ∈ l.map yv, u.oneCell' = true := fun u hu => by
  obtain ⟨x, _, rfl⟩ := List.mem_map.1 hu
  rfl
set_option maxRecDepth 20000 in
set_option maxHeartbeats 4000000 in
theorem copied103 {B : Nat} {W : World} {gr cap w : Nat} {cells : List (List Nat)} {gs cs : Nat → Nat} (h : StY B W gr cap w cells gs cs) (hw : w ≤ 65536) (hh : cells.length ≤ 65536) : Calls Tryz.prog 117 #[.agg #[.slice (some ⟨gr, 0, none⟩) cells.length cap]] W fun e w' =>
    ∃ gr' gs' cs', e = .returned (.iface 151 (.agg #[.slice (some ⟨gr', 0, none⟩) cells.length cells.length])) ∧ StY W.heap.size w' gr' cells.length w cells gs' cs' ∧ Below W.heap.size W w' := by
  have hmk := fun m => run_make_row' (P := Tryz.prog) 149 51 (.slice none 0 0) 24 Tryz.underlying149 info51' rfl .i64 .i64 m
  have hmkn : ∀ W, (Instr.makeSlice 149 (.int .i64 (cells.length : Int)) (.int .i64 (cells.length : Int))).run Tryz.prog W = .ok (.slice (some ⟨W.heap.size, 0, none⟩) cells.length cells.length) (W.alloc (.cells (madeCells #[.slice none 0 0] cells.length) 51)) := fun W => hmk cells.length (by omega) (by omega) W
  have h' := Lib.hid h
  obtain ⟨hp1, hp2⟩ := h.pos
  clear hmk h
  go_enter Tryz.func117, Tryz.ntmps117
  go_wp2_with fail
  obtain ⟨W2, hW2⟩ : ∃ W2, W2 = (((W.alloc (.cells #[.slice (some ⟨gr, 0, none⟩) cells.length cap] 151)).alloc (.cells (madeCells #[.slice none 0 0] cells.length) 51)).alloc (.cells #[.slice (some ⟨W.heap.size + 1, 0, none⟩) cells.length cells.length] 151)) := ⟨_, rfl⟩
  have hB2 : Hid (Below W.heap.size W W2) := by rw [hW2]; exact ((below_new _).alloc (by simp) _).alloc (by simp; omega) _
  have E2 : Blks W2 [(W.heap.size + 1 + 1, #[.slice (some ⟨W.heap.size + 1, 0, none⟩) cells.length cells.length], 151), (W.heap.size + 1, madeCells #[.slice none 0 0] cells.length, 51)] := by
    rw [hW2]
    exact ((Blks.nil _).alloc (n := W.heap.size + 1) (by simp) (madeCells #[.slice none 0 0] cells.length) 51).alloc (n := W.heap.size + 1 + 1) (by simp) #[.slice (some ⟨W.heap.size + 1, 0, none⟩) cells.length cells.length] 151
  have hb2 : Hid (W2.heap[W.heap.size + 1 + 1]? = some (.cells #[.slice (some ⟨W.heap.size + 1, 0, none⟩) cells.length cells.length] 151 (0, 0))) := E2 (W.heap.size + 1 + 1, #[.slice (some ⟨W.heap.size + 1, 0, none⟩) cells.length cells.length], 151) (by simp)
  have hg2 : Hid (W2.heap[W.heap.size + 1]? = some (.cells (partR w (fun _ => 0) (fun _ => 0) cells.length 0).toArray 51 (0, 0))) := by
    rw [partR_zero, ← made_slices]
    exact E2 (W.heap.size + 1, madeCells #[.slice none 0 0] cells.length, 51) (by simp)
  have hz2 : W2.heap.size = W.heap.size + 3 := by rw [hW2]; simp
  rw [← hW2]
  clear hW2 E2
  obtain ⟨g3, hg3⟩ : ∃ g3, Hid (g3 = W.heap.size + 1) := ⟨_, rfl⟩
  obtain ⟨b3, hb3⟩ : ∃ b3, Hid (b3 = W.heap.size + 1 + 1) := ⟨_, rfl⟩
  have hb4 := hb3.out
  have hg4 := hg3.out
  rw [← hb4, ← hg4] at hb2
  rw [← hg4] at hg2
  rw [← hb4, ← hg4]
  have hgb : Hid (g3 + 1 = b3 ∧ b3 + 1 = W2.heap.size ∧ g3 = W.heap.size + 1) := ⟨by omega, by omega, by omega⟩
  clear hb3 hg3 hb4 hg4 hz2
  go_loopw [14] (fun i wx => CyRel W b3 g3 w cells i wx) (fun i _ => cells.length - (intOf i).toNat)
  case atStart => exact ⟨0, fun _ => 0, fun _ => 0, by omega, by go_num, hB2.out, by have := hgb.out; omega, hb2.out, hg2.out, by omega, by omega⟩
  case round =>
    obtain ⟨k, gs3, cs3, hk, rfl, hB, hbs, hb, hg, hr, hs⟩ := hrel
    have hB' := Lib.hid hB
    by_cases hlt : k < cells.length
    · have hst := h'.out.kept hB
      have c1 := hst.rowCell hlt
      have hnews := Lib.hid (hst.news hlt)
      have hlen := Lib.hid (hst.len hlt)
      have c0 : wr.cell? ⟨b3, 0, none⟩ = some (.slice (some ⟨g3, 0, none⟩) cells.length cells.length) := by rw [cell_of_row wr b3 0 _ 151 (0, 0) hb]; rfl
      have hgs : g3 < wr.heap.size := by have := hgb.out; omega
      have hb' := Lib.hid hb
      have hg' := Lib.hid hg
      have hr' := Lib.hid hr
      have hs' := Lib.hid hs
      generalize hgk : gs k = gk at *
      generalize hck : cs k = ck at *
      clear hB hb hg hr hs hst
      have d0 : wr.drew.cell? ⟨b3, 0, none⟩ = some (.slice (some ⟨g3, 0, none⟩) cells.length cells.length) := c0
      have d1 : wr.drew.cell? ⟨g3, k, none⟩ = some (.slice none 0 0) := by
        show wr.cell? _ = _
        rw [cell_of_row wr g3 k _ 51 (0, 0) hg'.out]
        simp only [List.getElem?_toArray]
        rw [partR_get _ _ _ hlt, if_neg (by omega)]
      have d2 : wr.drew.frozen? ⟨g3, k, none⟩ = false := frozen_of_row wr g3 k _ 51 hg'.out
      have fb : Hid (∀ w1 : World, wr.drew.grownBy w1 none → w1.cell? ⟨b3, 0, none⟩ = some (.slice (some ⟨g3, 0, none⟩) cells.length cells.length) ∧ w1.cell? ⟨g3, k, none⟩ = some (.slice none 0 0) ∧ w1.frozen? ⟨g3, k, none⟩ = false) := fun w1 hgrow => ⟨(hgrow.cell_far _ (by simpa using hbs) (by simp)).trans d0, (hgrow.cell_far _ (by simpa using hgs) (by simp)).trans d1, (hgrow.frozen_far _ (by simpa using hgs) (by simp)).trans d2⟩
      go_wp2_with fail
      obtain ⟨i0, hi, hq0, hq1, hq2⟩ := info_parts info5'
      have hi' := Lib.hid hi
      clear hi
      go_region_law ((refine step_append_lies _ (by rfl) _ _ _ (by rfl) (b3 + 1) 5 i0 _ 1 1 Tryz.underlying51 hi'.out hq0 hq1 hq2 rfl (by omega) (.slice none 0 0) 0 [] (by rfl) (World.ownsRow_nil _ _ _ _) ⟨gk, 0, none⟩ w ck ((cells.getD k []).map yv) (by rfl) (by rw [List.length_map, hlen.out, Nat.mul_one]) (by exact hnews.out) (yv_cells _) (by omega) (by unfold maxLen; omega) (by omega) (by simp; omega) wr.heap.size (by simp) ?_; intro gg cap w1 hown1 hgrow hat hlt1; obtain ⟨e1, e2, e3⟩ := fb.out w1 hgrow; have hown1' := Lib.hid hown1; have hgrow' := Lib.hid hgrow; have hat' := Lib.hid hat; clear hown1 hgrow hat hlt1))
      all_goals
        go_wp2
        have hx := hown1'.out
        rw [Nat.zero_add, List.nil_append] at hx
        obtain ⟨hx1, _, cur, hx3, _⟩ := own_slice hx
        have hgg : gg = wr.heap.size := by
          rcases hat'.out with q | q
          · cases q
          · exact q
        have hne : g3 < b3 := by have := hgb.out; omega
        have hBw : Below wr.heap.size wr w1 := (Below.refl _ _).drew.grown hgrow'.out (by simp) (fun q hq => by cases hq)
        have hBx : Below W.heap.size W w1 := hB'.out.drew.grown hgrow'.out (by have := hgb.out; simp; omega) (fun q hq => by cases hq)
        have hb1 := (hBw.block b3 hbs).trans hb'.out
        have hg1 := (hBw.block g3 hgs).trans hg'.out
        have hlt3 : ∀ y, y < k → gs3 y ≠ gg ∧ b3 + 1 ≤ gs3 y := fun y hy => by
          obtain ⟨q1, _, c, q3, _⟩ := own_slice (hr'.out y hy)
          have := (Array.getElem?_eq_some_iff.1 q3).1
          exact ⟨by omega, q1⟩
        refine ⟨⟨k + 1, fun y => if y = k then gg else gs3 y, fun y => if y = k then cap else cs3 y, by omega, by go_num, hBx.setCell (by have := hgb.out; simp; omega) _, ?_, ?_, ?_, ?_, ?_⟩, by simp [intOf]; omega⟩
        · have := hBw.size
          simp; omega
        · rw [heap_setCell_other w1 ⟨g3, k, none⟩ b3 _ (by simp; omega)]
          exact hb1
        · rw [heap_setCell_same w1 g3 k _ 51 _ hg1, ← partR_set w gs3 cs3 hlt]
          simp
        · intro y hy
          dsimp only
          by_cases e : y = k
          · subst e
            rw [if_pos rfl, if_pos rfl]
            exact own_other hx (fun q => by have q : some gg = some g3 := q; injection q; omega) _
          · rw [if_neg e, if_neg e]
            have := (hlt3 y (by omega)).2
            exact own_other (own_below (hr'.out y (by omega)) hBw) (fun q => by have q : some (gs3 y) = some g3 := q; injection q; omega) _
        · intro y z hy hz hyz
          dsimp only
          by_cases e : y = k
          · have e2 : ¬ z = k := by omega
            rw [if_pos e, if_neg e2]
            exact fun q => (hlt3 z (by omega)).1 q.symm
          · by_cases e2 : z = k
            · rw [if_neg e, if_pos e2]
              exact (hlt3 y (by omega)).1
            · rw [if_neg e, if_neg e2]
              exact hs'.out y z (by omega) (by omega) hyz
    · obtain rfl : k = cells.length := by omega
      have FIN : Hid (StY W.heap.size wr g3 cells.length w cells gs3 cs3) := by
        refine ⟨⟨by simp, .inr ⟨g3, cells.length, _, rfl, by have := hgb.out; omega, hg, Nat.le_refl _, by unfold maxLen; omega, by simp [partR_len], ?_⟩⟩, fun y hy => own_lower (hr y hy) (by have := hgb.out; omega), hs, hp1, hp2⟩
        rw [Nat.mul_one, List.toList_toArray, List.take_of_length_le (by rw [partR_len]; exact Nat.le_refl _)]
        unfold partR
        apply List.map_congr_left
        intro y hy
        rw [if_pos (List.mem_range.1 hy)]
      have c0 : wr.cell? ⟨b3, 0, none⟩ = some (.slice (some ⟨g3, 0, none⟩) cells.length cells.length) := by rw [cell_of_row wr b3 0 _ 151 (0, 0) hb]; rfl
      clear hB hb hg hr hs
      go_wp2
      go_ret
      exact ⟨g3, rfl, ⟨gs3, cs3, FIN.out⟩, hB'.out⟩
end Go.Proofs.YtcbhbojplcddkaaGreatDoor
namespace Go.Proofs.YtcbhbojplcddkaaGreatDoor
open Go.RowKit Go.RowBits
set_option linter.unusedSimpArgs false
set_option linter.unusedVariables false

/-! ### A store of bits, copied -/
theorem info58' : (Tryz.prog.info? 58).map (fun i => (i.zero, i.size, i.bytes)) = some (some (.agg #[.int .i64 0, .slice none 0 0]), 2, 32) := by kernel_rfl
/-- The rows' block while it is filled. -/
def pairAt (w L : Nat) (gs cs : Nat → Nat) (k y : Nat) : List Value := if y < k then rowPair w gs cs L y else [.int .i64 0, .slice none 0 0]
def partP (w L : Nat) (gs cs : Nat → Nat) (h k : Nat) : List Value := (List.range h).flatMap (pairAt w L gs cs k)
theorem pairAt_len (w L : Nat) (gs cs : Nat → Nat) (k y : Nat) : (pairAt w L gs cs k y).length = 2 := by unfold pairAt; split <;> rfl
theorem partP_succ (w L : Nat) (gs cs : Nat → Nat) (h k : Nat) : partP w L gs cs (h + 1) k = partP w L gs cs h k ++ pairAt w L gs cs k h := by
  unfold partP
  rw [List.range_succ, List.flatMap_append]
  simp
theorem partP_len (w L : Nat) (gs cs : Nat → Nat) (h k : Nat) : (partP w L gs cs h k).length = h * 2 := by
  induction h with
  | zero => simp [partP]
  | succ h ih => rw [partP_succ, List.length_append, ih, pairAt_len]; omega
theorem partP_get (w L : Nat) (gs cs : Nat → Nat) (k : Nat) {h y : Nat} (hy : y < h) : (partP w L gs cs h k)[y * 2]? = (pairAt w L gs cs k y)[0]? ∧ (partP w L gs cs h k)[y * 2 + 1]? = (pairAt w L gs cs k y)[1]? := by
  induction h with
  | zero => omega
  | succ h ih =>
    have hl := partP_len w L gs cs h k
    rw [partP_succ]
    by_cases hyh : y < h
    · rw [List.getElem?_append_left (by omega), List.getElem?_append_left (by omega)]
      exact ih hyh
    · obtain rfl : y = h := by omega
      rw [List.getElem?_append_right (by omega), List.getElem?_append_right (by omega), hl]
      refine ⟨by simp, ?_⟩
      rw [show y * 2 + 1 - y * 2 = 1 from by omega]
theorem partP_upto (w L : Nat) (gs cs : Nat → Nat) (k : Nat) : ∀ h, h ≤ k → partP w L gs cs h k = rowPairs w gs cs L h
  | 0, _ => rfl
  | h + 1, hk => by
    have e : rowPairs w gs cs L (h + 1) = rowPairs w gs cs L h ++ rowPair w gs cs L h := by
      unfold rowPairs
      rw [List.range_succ, List.flatMap_append]
      simp
    rw [partP_succ, partP_upto w L gs cs k h (by omega), e]
    unfold pairAt
    rw [if_pos (by omega)]
theorem partP_all (w L : Nat) (gs cs : Nat → Nat) (h : Nat) : partP w L gs cs h h = rowPairs w gs cs L h := partP_upto w L gs cs h h (Nat.le_refl _)
theorem partP_zero (w L : Nat) (gs cs : Nat → Nat) (h : Nat) : (partP w L gs cs h 0).toArray = madeCells #[.int .i64 0, .slice none 0 0] (h * 2) := by
  apply Array.ext'
  apply List.ext_getElem?
  intro j
  rw [List.toList_toArray]
  by_cases hj : j < h * 2
  · have hm : ((madeCells #[.int .i64 0, .slice none 0 0] (h * 2)).toList)[j]? = some ((#[.int .i64 0, .slice none 0 0] : Array Value)[j % 2]!) := by simp [madeCells, hj]
    obtain ⟨a0, a1⟩ := partP_get w L gs cs 0 (show j / 2 < h by omega)
    rw [hm]
    rcases (show j = j / 2 * 2 ∨ j = j / 2 * 2 + 1 by omega) with e | e
    · have e2 : j % 2 = 0 := by omega
      rw [e2, e, a0]
      rfl
    · have e2 : j % 2 = 1 := by omega
      rw [e2, e, a1]
      rfl
  · rw [List.getElem?_eq_none (by rw [partP_len]; omega), List.getElem?_eq_none (by rw [Array.length_toList, size_madeCells]; omega)]
theorem made64 (n : Nat) (h : n ≤ 65536) (W : World) : (Instr.makeSlice 71 (.int .i64 (n : Int)) (.int .i64 (n : Int))).run Tryz.prog W = .ok (.slice (some ⟨W.heap.size, 0, none⟩) n n) (W.alloc (.cells (madeCells #[.int .i64 0, .slice none 0 0] (n * 2)) 58)) := by
  obtain ⟨i, hi, hzz⟩ := Option.map_eq_some_iff.1 info58'
  simp only [Prod.mk.injEq] at hzz
  obtain ⟨hz, hs, hb⟩ := hzz
  have hb' : (i.bytes : Int) * (n : Int) ≤ 281474976710656 := by rw [hb]; omega
  have hr := run_make (P := Tryz.prog) W 71 58 i _ Tryz.underlying71 hi hz .i64 .i64 n n (by omega) (Int.le_refl _) hb' (by omega)
  simp only [Int.toNat_natCast, hs] at hr
  exact hr
/-- Two rows of pairs are equal if they are so at each place. -/
theorem partP_set (w L : Nat) (gs cs : Nat → Nat) {h k g c : Nat} (hk : k < h) : ((partP w L gs cs h k).set (k * 2) (.int .i64 (w : Int))).set (k * 2 + 1) (.slice (some ⟨g, 0, none⟩) L c) = partP w L (fun y => if y = k then g else gs y) (fun y => if y = k then c else cs y) h (k + 1) := by
  apply List.ext_getElem (by simp [partP_len])
  intro j h1 h2
  have hj : j < h * 2 := by rw [List.length_set, List.length_set, partP_len] at h1; exact h1
  apply Option.some_inj.1
  rw [← List.getElem?_eq_getElem h1, ← List.getElem?_eq_getElem h2, List.getElem?_set, List.getElem?_set, List.length_set, partP_len]
  have hy : j / 2 < h := by omega
  obtain ⟨a0, a1⟩ := partP_get w L gs cs k hy
  obtain ⟨b0, b1⟩ := partP_get w L (fun y => if y = k then g else gs y) (fun y => if y = k then c else cs y) (k + 1) hy
  rcases (show j = j / 2 * 2 ∨ j = j / 2 * 2 + 1 by omega) with e | e
  · by_cases hjk : j / 2 = k
    · rw [if_neg (by omega), if_pos (by omega), if_pos (by omega), e, b0]
      unfold pairAt
      rw [if_pos (by omega)]
      rfl
    · rw [if_neg (by omega), if_neg (by omega), e, a0, b0]
      unfold pairAt rowPair
      by_cases h3 : j / 2 < k
      · rw [if_pos h3, if_pos (by omega)]; rfl
      · rw [if_neg h3, if_neg (by omega)]
  · by_cases hjk : j / 2 = k
    · rw [if_pos (by omega), if_pos (by omega), e, b1]
      unfold pairAt rowPair
      rw [if_pos (by omega)]
      simp [hjk]
    · rw [if_neg (by omega), if_neg (by omega), e, a1, b1]
      unfold pairAt rowPair
      by_cases h3 : j / 2 < k
      · rw [if_pos h3, if_pos (by omega)]; simp [hjk]
      · rw [if_neg h3, if_neg (by omega)]
theorem StW.news {B : Nat} {W : World} {gr cap w : Nat} {ws : List (List Nat)} {gs cs : Nat → Nat} (h : StW B W gr cap w ws gs cs) {y : Nat} (hy : y < ws.length) : ∀ (j : Nat) u, ((ws.getD y []).map wv)[j]? = some u → W.cell? ((⟨gs y, 0, none⟩ : Addr).add j) = some u := fun j u hj => by
  have hl := (h.good y hy).len
  have hjl : j < (w + 63) / 64 := by
    have := (List.getElem?_eq_some_iff.1 hj).1
    rw [List.length_map] at this
    omega
  rw [Addr.add_lit, Nat.zero_add, h.cell hy hjl, ← hj]
  generalize ws.getD y [] = r at *
  have : j < r.length := by omega
  simp [this, wv]
theorem wv_cells (l : List Nat) : ∀ u ∈ l.map wv, u.oneCell' = true := fun u hu => by
  obtain ⟨x, _, rfl⟩ := List.mem_map.1 hu
  rfl
def CwRel (W0 : World) (b3 g3 w : Nat) (ws : List (List Nat)) (i : Value) (wx : World) : Prop :=
  ∃ (k : Nat) (gs cs : Nat → Nat), k ≤ ws.length ∧ i = .int .i64 (k : Int) ∧ Below W0.heap.size W0 wx ∧ b3 < wx.heap.size ∧ wx.heap[b3]? = some (.cells #[.slice (some ⟨g3, 0, none⟩) ws.length ws.length] 147 (0, 0)) ∧
    wx.heap[g3]? = some (.cells (partP w ((w + 63) / 64) gs cs ws.length k).toArray 58 (0, 0)) ∧ (∀ y, y < k → wx.ownsRow (b3 + 1) 61 1 (.slice (some ⟨gs y, 0, none⟩) ((w + 63) / 64) (cs y)) ((w + 63) / 64) ((ws.getD y []).map wv)) ∧ (∀ y z, y < k → z < k → y ≠ z → gs y ≠ gs z)
set_option maxRecDepth 20000 in
set_option maxHeartbeats 4000000 in
theorem copied99 {B : Nat} {W : World} {gr cap w : Nat} {ws : List (List Nat)} {gs cs : Nat → Nat} (h : StW B W gr cap w ws gs cs) (hw : w ≤ 65536) (hh : ws.length ≤ 65536) : Calls Tryz.prog 113 #[.agg #[.slice (some ⟨gr, 0, none⟩) ws.length cap]] W fun e w' =>
    ∃ gr' gs' cs', e = .returned (.iface 147 (.agg #[.slice (some ⟨gr', 0, none⟩) ws.length ws.length])) ∧ StW W.heap.size w' gr' ws.length w ws gs' cs' ∧ Below W.heap.size W w' := by
  have hmkn := made64 ws.length hh
  have h' := Lib.hid h
  obtain ⟨hp1, hp2⟩ := h.pos
  have hgood := Lib.hid h.good
  clear h
  go_enter Tryz.func113, Tryz.ntmps113
  go_wp2_with fail
  obtain ⟨W2, hW2⟩ : ∃ W2, W2 = (((W.alloc (.cells #[.slice (some ⟨gr, 0, none⟩) ws.length cap] 147)).alloc (.cells (madeCells #[.int .i64 0, .slice none 0 0] (ws.length * 2)) 58)).alloc (.cells #[.slice (some ⟨W.heap.size + 1, 0, none⟩) ws.length ws.length] 147)) := ⟨_, rfl⟩
  have hB2 : Hid (Below W.heap.size W W2) := by rw [hW2]; exact ((below_new _).alloc (by simp) _).alloc (by simp; omega) _
  have E2 : Blks W2 [(W.heap.size + 1 + 1, #[.slice (some ⟨W.heap.size + 1, 0, none⟩) ws.length ws.length], 147), (W.heap.size + 1, madeCells #[.int .i64 0, .slice none 0 0] (ws.length * 2), 58)] := by
    rw [hW2]
    exact ((Blks.nil _).alloc (n := W.heap.size + 1) (by simp) (madeCells #[.int .i64 0, .slice none 0 0] (ws.length * 2)) 58).alloc (n := W.heap.size + 1 + 1) (by simp) #[.slice (some ⟨W.heap.size + 1, 0, none⟩) ws.length ws.length] 147
  have hb2 : Hid (W2.heap[W.heap.size + 1 + 1]? = some (.cells #[.slice (some ⟨W.heap.size + 1, 0, none⟩) ws.length ws.length] 147 (0, 0))) := E2 (W.heap.size + 1 + 1, #[.slice (some ⟨W.heap.size + 1, 0, none⟩) ws.length ws.length], 147) (by simp)
  have hg2 : Hid (W2.heap[W.heap.size + 1]? = some (.cells (partP w ((w + 63) / 64) (fun _ => 0) (fun _ => 0) ws.length 0).toArray 58 (0, 0))) := by
    rw [partP_zero]
    exact E2 (W.heap.size + 1, madeCells #[.int .i64 0, .slice none 0 0] (ws.length * 2), 58) (by simp)
  have hz2 : W2.heap.size = W.heap.size + 3 := by rw [hW2]; simp
  rw [← hW2]
  clear hW2 E2
  obtain ⟨g3, hg3⟩ : ∃ g3, Hid (g3 = W.heap.size + 1) := ⟨_, rfl⟩
  obtain ⟨b3, hb3⟩ : ∃ b3, Hid (b3 = W.heap.size + 1 + 1) := ⟨_, rfl⟩
  have hb4 := hb3.out
  have hg4 := hg3.out
  rw [← hb4, ← hg4] at hb2
  rw [← hg4] at hg2
  rw [← hb4, ← hg4]
  have hgb : Hid (g3 + 1 = b3 ∧ b3 + 1 = W2.heap.size ∧ g3 = W.heap.size + 1) := ⟨by omega, by omega, by omega⟩
  clear hb3 hg3 hb4 hg4 hz2
  go_loopw [14] (fun i wx => CwRel W b3 g3 w ws i wx) (fun i _ => ws.length - (intOf i).toNat)
  case atStart => exact ⟨0, fun _ => 0, fun _ => 0, by omega, by go_num, hB2.out, by have := hgb.out; omega, hb2.out, hg2.out, by omega, by omega⟩
  case round =>
    obtain ⟨k, gs3, cs3, hk, rfl, hB, hbs, hb, hg, hr, hs⟩ := hrel
    have hB' := Lib.hid hB
    by_cases hlt : k < ws.length
    · have hst := h'.out.kept hB
      obtain ⟨c1, c2⟩ := hst.rowCell hlt
      have hnews := Lib.hid (hst.news hlt)
      have hlen := Lib.hid ((hgood.out k hlt).len)
      have c0 : wr.cell? ⟨b3, 0, none⟩ = some (.slice (some ⟨g3, 0, none⟩) ws.length ws.length) := by rw [cell_of_row wr b3 0 _ 147 (0, 0) hb]; rfl
      have hgs : g3 < wr.heap.size := by have := hgb.out; omega
      have hb' := Lib.hid hb
      have hg' := Lib.hid hg
      have hr' := Lib.hid hr
      have hs' := Lib.hid hs
      generalize hgk : gs k = gk at *
      generalize hck : cs k = ck at *
      generalize hLL : (w + 63) / 64 = L at *
      clear hB hb hg hr hs hst
      go_wp2_with fail
      obtain ⟨W4, hW4⟩ : ∃ W4, W4 = wr.alloc (.cells #[.int .i64 (w : Int), .slice (some ⟨gk, 0, none⟩) L ck] 58) := ⟨_, rfl⟩
      have hA4 : Hid (Below wr.heap.size wr W4) := by rw [hW4]; exact below_new _
      have hz4 : W4.heap.size = wr.heap.size + 1 := by rw [hW4]; simp
      have hk4 : W4.heap[wr.heap.size]? = some (.cells #[.int .i64 (w : Int), .slice (some ⟨gk, 0, none⟩) L ck] 58 (0, 0)) := by rw [hW4]; exact heap_alloc_new wr _
      rw [← hW4]
      clear hW4
      obtain ⟨b5, hb5⟩ : ∃ b5, Hid (b5 = wr.heap.size) := ⟨_, rfl⟩
      rw [← hb5.out] at hz4 hk4 hgs hbs
      rw [← hb5.out]
      have hk4' := Lib.hid hk4
      have d0 : W4.drew.cell? ⟨b3, 0, none⟩ = some (.slice (some ⟨g3, 0, none⟩) ws.length ws.length) := cell_kept hA4.out.drew c0
      have hg4 := (hA4.out.block g3 (by have := hb5.out; omega)).trans hg'.out
      have d2 : W4.drew.frozen? ⟨g3, k * 2, none⟩ = false := frozen_of_row W4 g3 (k * 2) _ 58 hg4
      have d3 : W4.drew.frozen? ⟨g3, k * 2 + 1, none⟩ = false := frozen_of_row W4 g3 (k * 2 + 1) _ 58 hg4
      obtain ⟨p0, p1⟩ := partP_get w L gs3 cs3 k hlt
      have d4 : W4.drew.cell? ⟨g3, k * 2, none⟩ = some (.int .i64 0) := by
        show W4.cell? _ = _
        rw [cell_of_row W4 g3 (k * 2) _ 58 (0, 0) hg4, List.getElem?_toArray, p0]
        unfold pairAt
        rw [if_neg (by omega)]
        rfl
      have d5 : W4.drew.cell? ⟨g3, k * 2 + 1, none⟩ = some (.slice none 0 0) := by
        show W4.cell? _ = _
        rw [cell_of_row W4 g3 (k * 2 + 1) _ 58 (0, 0) hg4, List.getElem?_toArray, p1]
        unfold pairAt
        rw [if_neg (by omega)]
        rfl
      have d6 : W4.drew.cell? ⟨b5, 0, none⟩ = some (.int .i64 (w : Int)) := by
        show W4.cell? _ = _
        rw [cell_of_row W4 b5 0 _ 58 (0, 0) hk4]; rfl
      have d7 : W4.drew.cell? ⟨b5, 1, none⟩ = some (.slice (some ⟨gk, 0, none⟩) L ck) := by
        show W4.cell? _ = _
        rw [cell_of_row W4 b5 1 _ 58 (0, 0) hk4]; rfl
      have hnews4 : Hid (∀ (j : Nat) u, ((ws.getD k []).map wv)[j]? = some u → W4.drew.cell? ((⟨gk, 0, none⟩ : Addr).add j) = some u) := fun j u hu => by
        have hq := hnews.out j u hu
        rw [Addr.add_lit] at hq ⊢
        exact cell_kept hA4.out.drew hq
      have fb : Hid (∀ w1 : World, W4.drew.grownBy w1 none → w1.cell? ⟨b3, 0, none⟩ = some (.slice (some ⟨g3, 0, none⟩) ws.length ws.length) ∧ w1.frozen? ⟨g3, k * 2, none⟩ = false ∧ w1.frozen? ⟨g3, k * 2 + 1, none⟩ = false ∧ w1.cell? ⟨g3, k * 2, none⟩ = some (.int .i64 0) ∧ w1.cell? ⟨g3, k * 2 + 1, none⟩ = some (.slice none 0 0) ∧ w1.cell? ⟨b5, 0, none⟩ = some (.int .i64 (w : Int))) := fun w1 hgrow =>
        ⟨(hgrow.cell_far _ (by simp; omega) (by simp)).trans d0, (hgrow.frozen_far _ (by simp; omega) (by simp)).trans d2, (hgrow.frozen_far _ (by simp; omega) (by simp)).trans d3, (hgrow.cell_far _ (by simp; omega) (by simp)).trans d4, (hgrow.cell_far _ (by simp; omega) (by simp)).trans d5, (hgrow.cell_far _ (by simp; omega) (by simp)).trans d6⟩
      clear hg4 hk4 c0 c1 c2 p0 p1
      obtain ⟨i0, hi, hq0, hq1, hq2⟩ := info_parts info61'
      have hi' := Lib.hid hi
      have hL0 : 0 < L ∧ L ≤ 1024 := by omega
      clear hi
      go_region_law ((refine step_append_lies _ (by rfl) _ _ _ (by rfl) (b3 + 1) 61 i0 _ 1 8 Tryz.underlying56 hi'.out hq0 hq1 hq2 rfl (by omega) (.slice none 0 0) 0 [] (by rfl) (World.ownsRow_nil _ _ _ _) ⟨gk, 0, none⟩ L ck ((ws.getD k []).map wv) (by rfl) (by rw [List.length_map, hlen.out, Nat.mul_one]) (by exact hnews4.out) (wv_cells _) (by omega) (by unfold maxLen; omega) (by omega) (by simp; omega) (b5 + 1) (by simp; omega) ?_; intro gg cap w1 hown1 hgrow hat hlt1; obtain ⟨e1, e2, e3, e4, e5, e6⟩ := fb.out w1 hgrow; have hown1' := Lib.hid hown1; have hgrow' := Lib.hid hgrow; have hat' := Lib.hid hat; clear hown1 hgrow hat hlt1))
      all_goals
        go_wp2
        have hx := hown1'.out
        rw [Nat.zero_add, List.nil_append] at hx
        obtain ⟨hx1, _, cur, hx3, _⟩ := own_slice hx
        have hgg : gg = b5 + 1 := by
          rcases hat'.out with q | q
          · cases q
          · exact q
        have hne : g3 < b3 := by have := hgb.out; omega
        have hb5' := hb5.out
        have hBw : Below wr.heap.size wr w1 := hA4.out.drew.grown hgrow'.out (by simp; omega) (fun q hq => by cases hq)
        have hBx : Below W.heap.size W w1 := (below_then hB'.out hA4.out (by have := hgb.out; omega)).drew.grown hgrow'.out (by have := hgb.out; simp; omega) (fun q hq => by cases hq)
        have hb1 := (hBw.block b3 (by omega)).trans hb'.out
        have hg1 := (hBw.block g3 (by omega)).trans hg'.out
        have hlt3 : ∀ y, y < k → gs3 y ≠ gg ∧ b3 + 1 ≤ gs3 y := fun y hy => by
          obtain ⟨q1, _, c, q3, _⟩ := own_slice (hr'.out y hy)
          have := (Array.getElem?_eq_some_iff.1 q3).1
          exact ⟨by omega, q1⟩
        unfold CwRel
        rw [hLL]
        refine ⟨⟨k + 1, fun y => if y = k then gg else gs3 y, fun y => if y = k then cap else cs3 y, by omega, by go_num, (hBx.setCell (by have := hgb.out; simp; omega) _).setCell (by have := hgb.out; simp; omega) _, ?_, ?_, ?_, ?_, ?_⟩, by simp [intOf]; omega⟩
        · have := hBw.size
          simp; omega
        · rw [heap_setCell_other _ ⟨g3, k * 2 + 1, none⟩ b3 _ (by simp; omega), heap_setCell_other w1 ⟨g3, k * 2, none⟩ b3 _ (by simp; omega)]
          exact hb1
        · rw [heap_setCell_same _ g3 (k * 2 + 1) _ 58 _ (heap_setCell_same w1 g3 (k * 2) _ 58 _ hg1), ← partP_set w L gs3 cs3 hlt]
          simp
        · intro y hy
          dsimp only
          by_cases e : y = k
          · subst e
            rw [if_pos rfl, if_pos rfl]
            exact own_other (own_other hx (fun q => by have q : some gg = some g3 := q; injection q; omega) _) (fun q => by have q : some gg = some g3 := q; injection q; omega) _
          · rw [if_neg e, if_neg e]
            have := (hlt3 y (by omega)).2
            exact own_other (own_other (own_below (hr'.out y (by omega)) hBw) (fun q => by have q : some (gs3 y) = some g3 := q; injection q; omega) _) (fun q => by have q : some (gs3 y) = some g3 := q; injection q; omega) _
        · intro y z hy hz hyz
          dsimp only
          by_cases e : y = k
          · have e2 : ¬ z = k := by omega
            rw [if_pos e, if_neg e2]
            exact fun q => (hlt3 z (by omega)).1 q.symm
          · by_cases e2 : z = k
            · rw [if_neg e, if_pos e2]
              exact (hlt3 y (by omega)).1
            · rw [if_neg e, if_neg e2]
              exact hs'.out y z (by omega) (by omega) hyz
    · obtain rfl : k = ws.length := by omega
      have FIN : Hid (StW W.heap.size wr g3 ws.length w ws gs3 cs3) := by
        refine ⟨⟨by rw [rowPairs_len], .inr ⟨g3, ws.length, _, rfl, by have := hgb.out; omega, hg, Nat.le_refl _, by unfold maxLen; omega, by simp [partP_len], ?_⟩⟩, fun y hy => own_lower (hr y hy) (by have := hgb.out; omega), hgood.out, hs, hp1, hp2⟩
        rw [List.toList_toArray, List.take_of_length_le (by rw [partP_len]; exact Nat.le_refl _)]
        exact partP_all _ _ _ _ _
      have c0 : wr.cell? ⟨b3, 0, none⟩ = some (.slice (some ⟨g3, 0, none⟩) ws.length ws.length) := by rw [cell_of_row wr b3 0 _ 147 (0, 0) hb]; rfl
      clear hB hb hg hr hs
      go_wp2
      go_ret
      exact ⟨g3, rfl, ⟨gs3, cs3, FIN.out⟩, hB'.out⟩
end Go.Proofs.YtcbhbojplcddkaaGreatDoor
