import Derived.Test.YtcbhbojplcddkaaGreatDoorZStI
import Derived.Test.YtcbhbojplcddkaaGreatDoorZStK
import Derived.Test.YtcbhbojplcddkaaGreatDoorZStN
import Derived.Deep.RegionHeld3
namespace Go.Proofs.YtcbhbojplcddkaaGreatDoor
open Go.RowKit Go.RowBits Go.Shelf
set_option linter.unusedSimpArgs false
set_option linter.unusedVariables false

/-! ### ring.Bytes -/
theorem row3 {w : World} {b T : Nat} {v0 v1 v2 : Value} (h : w.heap[b]? = some (.cells #[v0, v1, v2] T (0, 0))) :
    w.cell? ⟨b, 0, none⟩ = some v0 ∧ w.cell? ⟨b, 1, none⟩ = some v1 ∧ w.cell? ⟨b, 2, none⟩ = some v2 ∧ w.frozen? ⟨b, 0, none⟩ = false ∧ w.frozen? ⟨b, 1, none⟩ = false ∧ w.frozen? ⟨b, 2, none⟩ = false := by
  refine ⟨?_, ?_, ?_, frozen_of_row w _ 0 _ T h, frozen_of_row w _ 1 _ T h, frozen_of_row w _ 2 _ T h⟩
  · exact (cell_of_row w _ 0 _ T (0, 0) h).trans rfl
  · exact (cell_of_row w _ 1 _ T (0, 0) h).trans rfl
  · exact (cell_of_row w _ 2 _ T (0, 0) h).trans rfl
def BytesPost (W : World) (w h : Nat) (L : List Nat) (e : Ending) (w' : World) : Prop := ∃ g, e = .returned (.tuple #[frameV w h g L.length, .int .i64 0]) ∧ W.heap.size ≤ g ∧ YBlk w' g L ∧ Below W.heap.size W w'
section
variable {B E : Nat} {W : World} {fb w h s : Nat} {pk : Bool} {c : Nat → Nat → Nat} {k tn sh : Int}
set_option maxRecDepth 100000 in
set_option maxHeartbeats 8000000 in
theorem bytes29 (f : Fld B E W fb w h s pk c) (hk : 0 ≤ k ∧ k < 256) (ht : 0 ≤ tn) (hok : TopoOk k w h tn sh) :
    Calls Tryz.prog 29 #[topoV k w h tn sh, .pointer (some ⟨fb, 0, none⟩)] W (BytesPost W w h (frameLN k tn sh w h c)) := by
  have F := Lib.hid f
  have hok' := Lib.hid hok
  obtain ⟨L, hL⟩ : ∃ L, Hid (L = frameLN k tn sh w h c) := ⟨_, rfl⟩
  rw [← hL.out]
  obtain ⟨W2, hW2⟩ : ∃ W2, Hid (W2 = (W.alloc (.cells #[.int .u8 k, .int .i64 (w : Int), .int .i64 (h : Int), .int .u8 tn, .int .i64 sh] 26)).alloc (.cells #[.int .i64 0, .int .i64 0, .slice none 0 0] 85)) := ⟨_, rfl⟩
  have hB2 : Hid (Below W.heap.size W W2) := by rw [hW2.out]; exact (below_new _).alloc (by simp) _
  have E2 : Hid (Blks W2 [(W.heap.size + 1, #[.int .i64 0, .int .i64 0, .slice none 0 0], 85), (W.heap.size, #[.int .u8 k, .int .i64 (w : Int), .int .i64 (h : Int), .int .u8 tn, .int .i64 sh], 26)]) := by
    rw [hW2.out]
    exact ((Blks.nil W).alloc rfl _ _).alloc (by simp) _ _
  have KA := Lib.hid (asked43 (F.out.kept hB2.out) hk ht hok)
  clear f hok
  go_enter Tryz.func29, Tryz.ntmps29
  go_wp2_with fail
  rw [← hW2.out]
  clear hW2
  refine (KA.out).mono ?_
  rintro e w1 ⟨rfl, hb⟩
  have hB1 := Lib.hid (below_then hB2.out hb hB2.out.size)
  have E1 := Lib.hid (E2.out.kept hb)
  have e26 : w1.heap[W.heap.size]? = some (.cells #[.int .u8 k, .int .i64 (w : Int), .int .i64 (h : Int), .int .u8 tn, .int .i64 sh] 26 (0, 0)) := E1.out (W.heap.size, _, _) (by simp)
  have e85 : w1.heap[W.heap.size + 1]? = some (.cells #[.int .i64 0, .int .i64 0, .slice none 0 0] 85 (0, 0)) := E1.out (W.heap.size + 1, _, _) (by simp)
  have q0 : w1.cell? ⟨W.heap.size, 0, none⟩ = some (.int .u8 k) := by rw [cell_of_row w1 _ 0 _ 26 (0, 0) e26]; rfl
  have q1 : w1.cell? ⟨W.heap.size, 1, none⟩ = some (.int .i64 (w : Int)) := by rw [cell_of_row w1 _ 1 _ 26 (0, 0) e26]; rfl
  have q2 : w1.cell? ⟨W.heap.size, 2, none⟩ = some (.int .i64 (h : Int)) := by rw [cell_of_row w1 _ 2 _ 26 (0, 0) e26]; rfl
  have q3 : w1.cell? ⟨W.heap.size, 3, none⟩ = some (.int .u8 tn) := by rw [cell_of_row w1 _ 3 _ 26 (0, 0) e26]; rfl
  have q4 : w1.cell? ⟨W.heap.size, 4, none⟩ = some (.int .i64 sh) := by rw [cell_of_row w1 _ 4 _ 26 (0, 0) e26]; rfl
  have KF : Hid (∀ w', Below w1.heap.size w1 w' → Calls Tryz.prog 60 #[topoV k w h tn sh, .pointer (some ⟨fb, 0, none⟩), .func (.func 61) #[] #[]] w' (FramePostN w' L)) := fun w' hb => by
    rw [hL.out]
    exact frame60 (F.out.kept (below_then hB1.out hb hB1.out.size)) ht hok'.out
  have hd : Hid (Below w1.heap.size w1 w1.drew) := (Below.refl _ _).drew
  have e85' := Lib.hid e85
  have z85 : W.heap.size + 1 < w1.heap.size := (Array.getElem?_eq_some_iff.1 e85).1
  have hne : ¬ (W.heap.size + 1 = W.heap.size) := by omega
  have hne2 : ¬ (W.heap.size = W.heap.size + 1) := by omega
  clear e26 e85 hb KA E2 hB2
  go_wp2_with fail
  go_region_held3 (fun w' => w'.cell? ⟨W.heap.size, 0, none⟩ = some (.int .u8 k) ∧ w'.cell? ⟨W.heap.size, 1, none⟩ = some (.int .i64 (w : Int)) ∧ w'.cell? ⟨W.heap.size, 2, none⟩ = some (.int .i64 (h : Int)) ∧ w'.cell? ⟨W.heap.size, 3, none⟩ = some (.int .u8 tn) ∧ w'.cell? ⟨W.heap.size, 4, none⟩ = some (.int .i64 sh)) (go_keep)
    (first
      | (go_at_call 60; refine (KF.out _ hd.out).mono ?_; rintro e w9 ⟨g, rfl, hg, hY, hb9⟩; have y0 := cell_kept hb9 (cell_kept hd.out q0); have y1 := cell_kept hb9 (cell_kept hd.out q1); have y2 := cell_kept hb9 (cell_kept hd.out q2); have y3 := cell_kept hb9 (cell_kept hd.out q3); have y4 := cell_kept hb9 (cell_kept hd.out q4); have r85 := (hb9.block _ z85).trans (show w1.drew.heap[W.heap.size + 1]? = some (.cells #[.int .i64 0, .int .i64 0, .slice none 0 0] 85 (0, 0)) from e85'.out); obtain ⟨x0, x1, x2, f0, f1, f2⟩ := row3 r85; have hg' := Lib.hid hg; have hY' := Lib.hid hY; have hb9' := Lib.hid (below_then hd.out hb9 hd.out.size); clear hg hY hb9 r85))
  go_wp2_with fail
  have hgz : W.heap.size + 1 < g := Nat.lt_of_lt_of_le z85 hg'.out
  try simp only [Exit.inBlock, Exit.then]
  refine bodyPost_ret (v := .tuple #[frameV w h g L.length, .int .i64 0]) ?_ rfl ⟨g, rfl, by omega, ?_, ?_⟩
  · rw [results_cell2 rfl]
    go_simp
  · exact ((hY'.out.setOther (by omega) _).setOther (by omega) _).setOther (by omega) _
  · exact (((below_then hB1.out hb9'.out hB1.out.size).setCell (by simp) _).setCell (by simp) _).setCell (by simp) _
end
end Go.Proofs.YtcbhbojplcddkaaGreatDoor
namespace Go.Proofs.YtcbhbojplcddkaaGreatDoor
open Go.RowKit Go.RowBits Go.Shelf
set_option linter.unusedSimpArgs false
set_option linter.unusedVariables false

/-! ### slices.Clone of bytes -/
theorem eqNil (g o n cap : Nat) (W : World) : Sem.run Tryz.prog (binOp BinOp.eql 51 (.slice (some ⟨g, o, none⟩) n cap) (.slice none 0 0)) W = .ok (.bool false) W := by kernel_rfl
def ClonePostY (W : World) (l : List Nat) (e : Ending) (w' : World) : Prop := ∃ v, e = .returned v ∧ w'.ownsRow W.heap.size 5 1 v l.length (l.map yv) ∧ Below W.heap.size W w'
set_option maxRecDepth 20000 in
set_option maxHeartbeats 4000000 in
theorem clone30 {W : World} {g o n cap : Nat} {l : List Nat} (hn : l.length = n) (hb : n ≤ 1000000) (hv : HasY W (.slice (some ⟨g, o, none⟩) n cap) l) (hpos : 0 < n) :
    Calls Tryz.prog 30 #[.slice (some ⟨g, o, none⟩) n cap] W (ClonePostY W l) := by
  obtain ⟨ad, cap', e, hcs⟩ := hv
  have hsrc : Hid (∀ j, j < l.length → W.cell? ⟨g, o + j, none⟩ = some (.int .u8 ((l.getD j 0 : Nat) : Int))) := fun j hj => by
    obtain ⟨g', o', e', c1⟩ := hcs j hj
    injection e with e
    subst e
    cases e'
    exact c1
  clear hcs e
  obtain ⟨i0, hi, iz0, iz1, iz2⟩ := info_parts info5'
  have hi' := Lib.hid hi
  have hn' := Lib.hid hn
  clear hi hn
  have hq := eqNil g o n cap W
  go_enter Tryz.func30, Tryz.ntmps30
  go_wp2_with (first
    | (at_builtin; go_loud (refine wpList_append_own _ rfl _ _ 51 rfl W.heap.size 5 i0 _ 1 1 Tryz.underlying51 hi'.out iz0 iz1 iz2 rfl (by decide) _ 0 [] rfl (World.ownsRow_made W #[] 0 (Nat.le_refl _) (by unfold maxLen; omega) rfl) ⟨g, o, none⟩ n cap (l.map yv) rfl (by rw [List.length_map, hn'.out]; omega) ?c1 ?c2 ?c3 ?c4 ?c5 ?_))
    | go_in)
  case c1 =>
    intro j u hj
    have hj2 : j < l.length := by have := (List.getElem?_eq_some_iff.1 hj).1; simpa using this
    rw [Addr.add_lit]
    have := cell_kept (below_new (.cells #[] 5)) (hsrc.out j hj2)
    rw [this]
    rw [List.getElem?_map, List.getElem?_eq_getElem hj2] at hj
    simp only [Option.map_some, Option.some.injEq] at hj
    rw [← hj, List.getD_eq_getElem?_getD, List.getElem?_eq_getElem hj2]
    rfl
  case c2 =>
    intro u hu
    obtain ⟨x, _, rfl⟩ := List.mem_map.1 hu
    rfl
  case c3 => unfold maxLen; omega
  case c4 => omega
  case c5 => simp
  intro v' w3 hown hgrow _
  have hB : Hid (Below W.heap.size W w3) := ((below_new (w := W) (.cells #[] 5)).grown hgrow (by simp) (fun q e => by
    simp [Value.ownBlock] at e
    omega))
  have hO : Hid (w3.ownsRow W.heap.size 5 1 v' l.length (l.map yv)) := by
    show World.ownsRow _ _ _ _ _ _ _
    rw [hn'.out]
    simpa using hown
  clear hown hgrow
  go_wp2
  go_ret
  exact ⟨v', rfl, hO.out, hB.out⟩
end Go.Proofs.YtcbhbojplcddkaaGreatDoor
namespace Go.Proofs.YtcbhbojplcddkaaGreatDoor
open Go.RowKit Go.RowBits Go.Shelf
set_option linter.unusedSimpArgs false
set_option linter.unusedVariables false

/-! ### Lay out of a row that lies at its block's head -/
def YRow (W : World) (g : Nat) (l : List Nat) : Prop := ∃ cur : Array Value, W.heap[g]? = some (.cells cur 5 (0, 0)) ∧ ∀ j, j < l.length → cur[j]? = some (.int .u8 ((l.getD j 0 : Nat) : Int))
theorem YRow.lt {w : World} {g : Nat} {l : List Nat} (h : YRow w g l) : g < w.heap.size := by
  obtain ⟨cur, h1, _⟩ := h
  exact (Array.getElem?_eq_some_iff.1 h1).1
theorem YRow.of_block {w w' : World} {g : Nat} {l : List Nat} (h : YRow w g l) (hb : w'.heap[g]? = w.heap[g]?) : YRow w' g l := by
  obtain ⟨cur, h1, h2⟩ := h
  exact ⟨cur, hb.trans h1, h2⟩
theorem YRow.kept {w w' : World} {g : Nat} {l : List Nat} (h : YRow w g l) (hb : Below w.heap.size w w') : YRow w' g l := h.of_block (hb.block g h.lt)
theorem YRow.grown {W W' : World} {lb g : Nat} {l : List Nat} (hY : YRow W lb l) (hg : W.grownBy W' (some g)) (hne : lb ≠ g) : YRow W' lb l := hY.of_block (hg.block lb hY.lt (fun e => hne (by injection e)))
theorem YRow.cell {w : World} {g : Nat} {l : List Nat} (h : YRow w g l) {j : Nat} (hj : j < l.length) : w.cell? ⟨g, j, none⟩ = some (.int .u8 ((l.getD j 0 : Nat) : Int)) := by
  obtain ⟨cur, h1, h2⟩ := h
  rw [cell_of_row w g j _ 5 (0, 0) h1]
  exact h2 j hj
theorem YRow.frozen {w : World} {g : Nat} {l : List Nat} (h : YRow w g l) (j : Nat) : w.frozen? ⟨g, j, none⟩ = false := by
  obtain ⟨cur, h1, _⟩ := h
  exact frozen_of_row w g j _ 5 h1
theorem YRow.set {w : World} {g j : Nat} {l : List Nat} (h : YRow w g l) (hj : j < l.length) (x : Nat) : YRow (w.setCell ⟨g, j, none⟩ (.int .u8 ((x : Nat) : Int))) g (l.set j x) := by
  obtain ⟨cur, h1, h2⟩ := h
  refine ⟨_, heap_setCell_same w g j _ 5 _ h1, fun i hi => ?_⟩
  have hi' : i < l.length := by simpa using hi
  have h0 := h2 i hi'
  have hsz : i < cur.size := (Array.getElem?_eq_some_iff.1 h0).1
  have hjz : j < cur.size := (Array.getElem?_eq_some_iff.1 (h2 j hj)).1
  by_cases e : j = i
  · subst e
    simp [hjz, hj, List.getD]
  · have e2 : (l.set j x).getD i 0 = l.getD i 0 := by simp [List.getD, List.getElem?_set, e]
    rw [e2, ← h0]
    simp [Array.getElem?_setIfInBounds, e]
theorem YRow.own {w : World} {base : Nat} {v : Value} {l : List Nat} (h : w.ownsRow base 5 1 v l.length (l.map yv)) (hpos : 0 < l.length) : ∃ g cap, v = .slice (some ⟨g, 0, none⟩) l.length cap ∧ base ≤ g ∧ YRow w g l := by
  rcases h.2 with ⟨_, hn⟩ | ⟨g, cap, cur, hv, hr⟩
  · omega
  · subst hv
    refine ⟨g, cap, rfl, (h.lt g rfl).1, cur, hr.2.1, fun j hj => ?_⟩
    have := h.cellAt j (by simpa using hj)
    rw [cell_of_row w g j _ 5 (0, 0) hr.2.1] at this
    rw [this]
    simp [hj, yv, List.getD]
section
variable {B E : Nat} {W W' : World} {fb w h s : Nat} {pk : Bool} {c : Nat → Nat → Nat}
end
set_option maxRecDepth 20000 in
set_option maxHeartbeats 4000000 in
theorem lay25yR {W : World} {fb w h s y gy lb cap : Nat} {pk : Bool} {u : Value} {l : List Nat} {S : (Nat → Nat → Nat) → World → Prop} {c : Nat → Nat → Nat} (hf : FBlk W fb w h s pk 151 u) (hw : 1 ≤ w ∧ w ≤ 65536) (hs : s ≤ 256) (hy : y < h)
    (hk : ∀ c W' W'', S c W' → Below W'.heap.size W' W'' → S c W'')
    (hset : ∀ c W' (x v : Nat), S c W' → x < w → v < s → Calls Tryz.prog 119 #[u, .int .i64 (x : Int), .int .i64 (y : Int), .int .u8 (v : Int)] W' fun e w' => (∃ r, e = .returned r) ∧ S (upd c y x v) w' ∧ W'.grownBy w' (some gy))
    (hS : S c W) (hY : YRow W lb l) (hl : l.length = w) (hlt : ∀ j, j < l.length → l.getD j 0 < s) (hne1 : fb ≠ gy) (hne2 : lb ≠ gy) :
    Calls Tryz.prog 11 #[.pointer (some ⟨fb, 0, none⟩), .int .i64 (y : Int), .slice (some ⟨lb, 0, none⟩) w cap] W fun e w' => e = .returned (.int .i64 0) ∧ S (updK c y l w) w' ∧ W.grownBy w' (some gy) := by
  have K1 := Lib.hid (none33 hf)
  have K2 := Lib.hid (fun W' => has53 w h s 0 (y : Int) W')
  rw [hasB_yes ⟨by omega, by omega⟩ ⟨by omega, by omega⟩] at K2
  have K3 : Hid (∀ (j : Nat) W', j < l.length → Calls Tryz.prog 35 #[shapeV w h s, .int .u8 ((l.getD j 0 : Nat) : Int)] W' fun e w' => e = .returned (.bool true) ∧ Below W'.heap.size W' w') := fun j W' hj => by
    have h1 := hlt j hj
    have := knows54 w h s (l.getD j 0) (by omega) W'
    rw [decide_eq_true (by omega)] at this
    exact this
  have hf' := Lib.hid hf
  have hY' := Lib.hid hY
  have hS' := Lib.hid hS
  have hk' := Lib.hid hk
  have hset' := Lib.hid hset
  have hlt' := Lib.hid hlt
  have c0 : W.cell? ⟨fb, 0, none⟩ = some (.int .i64 (w : Int)) := hf.cell rfl
  have c1 : W.cell? ⟨fb, 1, none⟩ = some (.int .i64 (h : Int)) := hf.cell rfl
  have c2 : W.cell? ⟨fb, 2, none⟩ = some (.int .i64 (s : Int)) := hf.cell rfl
  have hl' := Lib.hid hl
  clear hf hY hS hk hset hlt hl
  obtain ⟨n1, n2⟩ := hw
  go_enter Tryz.func11, Tryz.ntmps11
  go_wp2_with fail
  refine (K1.out).mono ?_
  rintro e w' ⟨rfl, hw'⟩
  subst w'
  go_wp2_with fail
  refine (K2.out _).mono ?_
  rintro e w1 ⟨rfl, hb⟩
  have hB1 := Lib.hid hb
  have d0 : w1.cell? ⟨fb, 0, none⟩ = some (.int .i64 (w : Int)) := cell_kept hb c0
  clear hb c0 c1 c2
  go_wp2
  clear d0
  go_loopw [33] (fun i wx => KnRel W w i wx) (fun i _ => w - (intOf i).toNat)
  case atStart => exact ⟨0, by omega, by go_num, hB1.out⟩
  case round =>
    obtain ⟨k, hkw, rfl, hB⟩ := hrel
    have hB' := Lib.hid hB
    by_cases hlk : k < w
    · have y1 := (hY'.out.kept hB).cell (j := k) (by rw [hl'.out]; exact hlk)
      have d0 : wr.cell? ⟨fb, 0, none⟩ = some (.int .i64 (w : Int)) := cell_kept hB (hf'.out.cell rfl)
      have d1 : wr.cell? ⟨fb, 1, none⟩ = some (.int .i64 (h : Int)) := cell_kept hB (hf'.out.cell rfl)
      have d2 : wr.cell? ⟨fb, 2, none⟩ = some (.int .i64 (s : Int)) := cell_kept hB (hf'.out.cell rfl)
      have KK := Lib.hid (K3.out k wr (by rw [hl'.out]; exact hlk))
      clear hB
      generalize l.getD k 0 = lv at *
      go_wp2_with fail
      refine (KK.out).mono ?_
      rintro e w5 ⟨rfl, hb⟩
      have hB5 := Lib.hid (below_then hB'.out hb hB'.out.size)
      clear hb
      go_wp2
      exact ⟨⟨k + 1, by omega, by go_num, hB5.out⟩, by simp [intOf]; omega⟩
    · obtain rfl : w = k := by omega
      clear hlk hB
      go_wp2
      have hG0 : Hid (W.grownBy wr (some gy)) := ⟨hB'.out.os, hB'.out.tape, hB'.out.output, hB'.out.size, fun k hk _ => hB'.out.block k hk⟩
      go_loopw [47] (fun i wx => LyRel S W c y gy l i wx) (fun i _ => w - (intOf i).toNat)
      case atStart => exact ⟨0, by omega, by go_num, hG0.out, by rw [updK_zero]; exact hk'.out _ _ _ hS'.out hB'.out⟩
      case round =>
        obtain ⟨k, hkl, rfl, hG, hSk⟩ := hrel
        have hG' := Lib.hid hG
        have hSk' := Lib.hid hSk
        rw [hl'.out] at hkl
        by_cases hlk : k < w
        · have y1 := (hY'.out.grown hG hne2).cell (j := k) (by rw [hl'.out]; exact hlk)
          have f4 : wr.cell? ⟨fb, 4, none⟩ = some (.iface 151 u) := (hf'.out.grown hG hne1).cell rfl
          have KK := Lib.hid (hset'.out _ wr k (l.getD k 0) hSk hlk (hlt'.out k (by rw [hl'.out]; exact hlk)))
          rw [updK_succ] at KK
          clear hG hSk
          generalize l.getD k 0 = lv at *
          go_wp2_with fail
          refine (KK.out).mono ?_
          rintro e w5 ⟨⟨rv, rfl⟩, hS5, hg5⟩
          have hS5' := Lib.hid hS5
          have hG5 := Lib.hid (hG'.out.trans hg5)
          clear hS5 hg5
          go_wp2
          exact ⟨⟨k + 1, by rw [hl'.out]; omega, by go_num, hG5.out, hS5'.out⟩, by simp [intOf]; omega⟩
        · obtain rfl : w = k := by omega
          clear hlk hG hSk
          go_wp2
          go_ret
          exact ⟨rfl, hSk'.out, hG'.out⟩
set_option maxRecDepth 20000 in
set_option maxHeartbeats 4000000 in
theorem lay25wR {W : World} {fb w h s y gy lb cap : Nat} {pk : Bool} {u : Value} {l : List Nat} {S : (Nat → Nat → Nat) → World → Prop} {c : Nat → Nat → Nat} (hf : FBlk W fb w h s pk 147 u) (hw : 1 ≤ w ∧ w ≤ 65536) (hs : s ≤ 256) (hy : y < h)
    (hk : ∀ c W' W'', S c W' → Below W'.heap.size W' W'' → S c W'')
    (hset : ∀ c W' (x v : Nat), S c W' → x < w → v < s → Calls Tryz.prog 115 #[u, .int .i64 (x : Int), .int .i64 (y : Int), .int .u8 (v : Int)] W' fun e w' => (∃ r, e = .returned r) ∧ S (upd c y x v) w' ∧ W'.grownBy w' (some gy))
    (hS : S c W) (hY : YRow W lb l) (hl : l.length = w) (hlt : ∀ j, j < l.length → l.getD j 0 < s) (hne1 : fb ≠ gy) (hne2 : lb ≠ gy) :
    Calls Tryz.prog 11 #[.pointer (some ⟨fb, 0, none⟩), .int .i64 (y : Int), .slice (some ⟨lb, 0, none⟩) w cap] W fun e w' => e = .returned (.int .i64 0) ∧ S (updK c y l w) w' ∧ W.grownBy w' (some gy) := by
  have K1 := Lib.hid (none33 hf)
  have K2 := Lib.hid (fun W' => has53 w h s 0 (y : Int) W')
  rw [hasB_yes ⟨by omega, by omega⟩ ⟨by omega, by omega⟩] at K2
  have K3 : Hid (∀ (j : Nat) W', j < l.length → Calls Tryz.prog 35 #[shapeV w h s, .int .u8 ((l.getD j 0 : Nat) : Int)] W' fun e w' => e = .returned (.bool true) ∧ Below W'.heap.size W' w') := fun j W' hj => by
    have h1 := hlt j hj
    have := knows54 w h s (l.getD j 0) (by omega) W'
    rw [decide_eq_true (by omega)] at this
    exact this
  have hf' := Lib.hid hf
  have hY' := Lib.hid hY
  have hS' := Lib.hid hS
  have hk' := Lib.hid hk
  have hset' := Lib.hid hset
  have hlt' := Lib.hid hlt
  have c0 : W.cell? ⟨fb, 0, none⟩ = some (.int .i64 (w : Int)) := hf.cell rfl
  have c1 : W.cell? ⟨fb, 1, none⟩ = some (.int .i64 (h : Int)) := hf.cell rfl
  have c2 : W.cell? ⟨fb, 2, none⟩ = some (.int .i64 (s : Int)) := hf.cell rfl
  have hl' := Lib.hid hl
  clear hf hY hS hk hset hlt hl
  obtain ⟨n1, n2⟩ := hw
  go_enter Tryz.func11, Tryz.ntmps11
  go_wp2_with fail
  refine (K1.out).mono ?_
  rintro e w' ⟨rfl, hw'⟩
  subst w'
  go_wp2_with fail
  refine (K2.out _).mono ?_
  rintro e w1 ⟨rfl, hb⟩
  have hB1 := Lib.hid hb
  have d0 : w1.cell? ⟨fb, 0, none⟩ = some (.int .i64 (w : Int)) := cell_kept hb c0
  clear hb c0 c1 c2
  go_wp2
  clear d0
  go_loopw [33] (fun i wx => KnRel W w i wx) (fun i _ => w - (intOf i).toNat)
  case atStart => exact ⟨0, by omega, by go_num, hB1.out⟩
  case round =>
    obtain ⟨k, hkw, rfl, hB⟩ := hrel
    have hB' := Lib.hid hB
    by_cases hlk : k < w
    · have y1 := (hY'.out.kept hB).cell (j := k) (by rw [hl'.out]; exact hlk)
      have d0 : wr.cell? ⟨fb, 0, none⟩ = some (.int .i64 (w : Int)) := cell_kept hB (hf'.out.cell rfl)
      have d1 : wr.cell? ⟨fb, 1, none⟩ = some (.int .i64 (h : Int)) := cell_kept hB (hf'.out.cell rfl)
      have d2 : wr.cell? ⟨fb, 2, none⟩ = some (.int .i64 (s : Int)) := cell_kept hB (hf'.out.cell rfl)
      have KK := Lib.hid (K3.out k wr (by rw [hl'.out]; exact hlk))
      clear hB
      generalize l.getD k 0 = lv at *
      go_wp2_with fail
      refine (KK.out).mono ?_
      rintro e w5 ⟨rfl, hb⟩
      have hB5 := Lib.hid (below_then hB'.out hb hB'.out.size)
      clear hb
      go_wp2
      exact ⟨⟨k + 1, by omega, by go_num, hB5.out⟩, by simp [intOf]; omega⟩
    · obtain rfl : w = k := by omega
      clear hlk hB
      go_wp2
      have hG0 : Hid (W.grownBy wr (some gy)) := ⟨hB'.out.os, hB'.out.tape, hB'.out.output, hB'.out.size, fun k hk _ => hB'.out.block k hk⟩
      go_loopw [47] (fun i wx => LyRel S W c y gy l i wx) (fun i _ => w - (intOf i).toNat)
      case atStart => exact ⟨0, by omega, by go_num, hG0.out, by rw [updK_zero]; exact hk'.out _ _ _ hS'.out hB'.out⟩
      case round =>
        obtain ⟨k, hkl, rfl, hG, hSk⟩ := hrel
        have hG' := Lib.hid hG
        have hSk' := Lib.hid hSk
        rw [hl'.out] at hkl
        by_cases hlk : k < w
        · have y1 := (hY'.out.grown hG hne2).cell (j := k) (by rw [hl'.out]; exact hlk)
          have f4 : wr.cell? ⟨fb, 4, none⟩ = some (.iface 147 u) := (hf'.out.grown hG hne1).cell rfl
          have KK := Lib.hid (hset'.out _ wr k (l.getD k 0) hSk hlk (hlt'.out k (by rw [hl'.out]; exact hlk)))
          rw [updK_succ] at KK
          clear hG hSk
          generalize l.getD k 0 = lv at *
          go_wp2_with fail
          refine (KK.out).mono ?_
          rintro e w5 ⟨⟨rv, rfl⟩, hS5, hg5⟩
          have hS5' := Lib.hid hS5
          have hG5 := Lib.hid (hG'.out.trans hg5)
          clear hS5 hg5
          go_wp2
          exact ⟨⟨k + 1, by rw [hl'.out]; omega, by go_num, hG5.out, hS5'.out⟩, by simp [intOf]; omega⟩
        · obtain rfl : w = k := by omega
          clear hlk hG hSk
          go_wp2
          go_ret
          exact ⟨rfl, hSk'.out, hG'.out⟩
section
variable {B E : Nat} {W W' : World} {fb w h s : Nat} {pk : Bool} {c : Nat → Nat → Nat}
theorem Fld.layR (f : Fld B E W fb w h s pk c) {y lb cap : Nat} {l : List Nat} (hy : y < h) (hY : YRow W lb l) (hl : l.length = w) (hlt : ∀ j, j < l.length → l.getD j 0 < s) (hlb : E ≤ lb) :
    Calls Tryz.prog 11 #[.pointer (some ⟨fb, 0, none⟩), .int .i64 (y : Int), .slice (some ⟨lb, 0, none⟩) w cap] W (LayPost B E W fb w h s pk c y l) := by
  obtain ⟨l1, l2, l3⟩ := f.lies
  have hs := f.side.2.2.1
  rcases f.keeps with ⟨h1, u, gs, h2, h3⟩ | ⟨h1, h0, u, gs, h2, h3⟩
  · have hgs : B ≤ gs y ∧ gs y < E ∧ fb ≠ gs y := by
      obtain ⟨gr, cap, cells, cs, _, e2, q1, q2, q3⟩ := h3
      obtain ⟨r1, _, cur, r2, _⟩ := own_slice (q1.row y (by omega))
      refine ⟨r1, q2.2 y (by omega), fun e => ?_⟩
      unfold FBlk at h2
      rw [e, r2] at h2
      injection h2 with h2
      injection h2 with _ h2 _
      cases h2
    refine (lay25yR (S := fun c W => KeepY B E w h u gs c W) h2 f.side.1 hs.2 hy (fun c W1 W2 q hb => q.kept hb) (fun c W1 x v q hx hv => q.set hx hy) h3 hY hl hlt hgs.2.2 (by omega)).mono ?_
    rintro e w' ⟨rfl, q1, q2⟩
    exact ⟨rfl, ⟨f.side, ⟨l1, l2, Nat.le_trans l3 q2.size⟩, .inl ⟨h1, u, gs, h2.grown q2 hgs.2.2, q1⟩, updK_low f.low (getD_lt (by omega) hlt)⟩, Only.of_grown q2 ⟨hgs.1, hgs.2.1⟩⟩
  · have hgs : B ≤ gs y ∧ gs y < E ∧ fb ≠ gs y := by
      obtain ⟨gr, cap, cells, cs, _, e2, q1, q2, q3⟩ := h3
      obtain ⟨r1, _, cur, r2, _⟩ := own_slice (q1.row y (by omega))
      refine ⟨r1, q2.2 y (by omega), fun e => ?_⟩
      unfold FBlk at h2
      rw [e, r2] at h2
      injection h2 with h2
      injection h2 with _ h2 _
      cases h2
    refine (lay25wR (S := fun c W => KeepW B E w h u gs c W) h2 f.side.1 hs.2 hy (fun c W1 W2 q hb => q.kept hb) (fun c W1 x v q hx hv => q.set f.side.1.2 f.side.2.1.2 hx hy (by omega)) h3 hY hl hlt hgs.2.2 (by omega)).mono ?_
    rintro e w' ⟨rfl, q1, q2⟩
    exact ⟨rfl, ⟨f.side, ⟨l1, l2, Nat.le_trans l3 q2.size⟩, .inr ⟨h1, h0, u, gs, h2.grown q2 hgs.2.2, q1⟩, updK_low f.low (getD_lt (by omega) hlt)⟩, Only.of_grown q2 ⟨hgs.1, hgs.2.1⟩⟩
end
end Go.Proofs.YtcbhbojplcddkaaGreatDoor
namespace Go.Proofs.YtcbhbojplcddkaaGreatDoor
open Go.RowKit Go.RowBits Go.Shelf Go.MapRaw
set_option linter.unusedSimpArgs false
set_option linter.unusedVariables false

/-! ### step: the asker, what a generation is, and what a run may write -/
theorem makeMap137 (W : World) : Sem.run Tryz.prog (Instr.makeMap 137 none) W = .ok (.map (some W.heap.size)) (W.alloc (.map #[] 0)) := by kernel_rfl
set_option maxRecDepth 20000 in
set_option maxHeartbeats 4000000 in
theorem asker28 (hd : Int) (born stay : Nat) (W : World) : Calls Tryz.prog 28 #[lifeRule hd born stay] W fun e w' => e = .returned (.func (.func 58) #[] #[.pointer (some ⟨W.heap.size + 1 + 1, 0, none⟩), .pointer (some ⟨W.heap.size, 0, none⟩)]) ∧ AskAt w' hd born stay (W.heap.size + 1 + 1) (W.heap.size + 1) W.heap.size ∧ Below W.heap.size W w' := by
  have FIN : Hid (∀ w', w' = ((W.alloc (.cells (lifeRuleC hd born stay) 46)).alloc (.map #[] 0)).alloc (.cells #[.map (some (W.heap.size + 1))] 137) → AskAt w' hd born stay (W.heap.size + 1 + 1) (W.heap.size + 1) W.heap.size ∧ Below W.heap.size W w') := fun w' hw => by
    subst hw
    refine ⟨⟨?_, ?_, ⟨[], ?_, fun p hp => by cases hp⟩, ⟨by omega, by omega⟩⟩, ((below_new _).alloc (by simp) _).alloc (by simp; omega) _⟩
    · have := heap_alloc_new ((W.alloc (.cells (lifeRuleC hd born stay) 46)).alloc (.map #[] 0)) (.cells #[.map (some (W.heap.size + 1))] 137)
      rw [World.size_alloc, World.size_alloc] at this
      exact this
    · have h1 := heap_alloc_new W (.cells (lifeRuleC hd born stay) 46)
      have h2 := (below_new (w := W.alloc (.cells (lifeRuleC hd born stay) 46)) (.map #[] 0)).block W.heap.size (by simp)
      have h3 := (below_new (w := (W.alloc (.cells (lifeRuleC hd born stay) 46)).alloc (.map #[] 0)) (.cells #[.map (some (W.heap.size + 1))] 137)).block W.heap.size (by simp; omega)
      rw [h3, h2, h1]
    · have h1 := MapIs.made (P := Tryz.prog) (k := 140) (W.alloc (.cells (lifeRuleC hd born stay) 46))
      rw [World.size_alloc] at h1
      exact h1.of_block ((below_new (w := (W.alloc (.cells (lifeRuleC hd born stay) 46)).alloc (.map #[] 0)) (.cells #[.map (some (W.heap.size + 1))] 137)).block (W.heap.size + 1) (by simp))
  go_enter Tryz.func28, Tryz.ntmps28
  have hmk := makeMap137
  go_wp2
  go_ret
  exact ⟨rfl, FIN.out _ rfl⟩
/-- What a run may write among what there was: its map, and its field's range. -/
structure Mix (mb B E : Nat) (W W' : World) : Prop where
  os : W'.os = W.os
  tape : W'.tape = W.tape
  output : W'.output = W.output
  size : W.heap.size ≤ W'.heap.size
  block : ∀ k, k < W.heap.size → k ≠ mb → (k < B ∨ E ≤ k) → W'.heap[k]? = W.heap[k]?
theorem Mix.refl (mb B E : Nat) (W : World) : Mix mb B E W W := ⟨rfl, rfl, rfl, Nat.le_refl _, fun _ _ _ _ => rfl⟩
theorem Mix.trans {mb B E : Nat} {W W' W'' : World} (h : Mix mb B E W W') (k : Mix mb B E W' W'') : Mix mb B E W W'' :=
  ⟨k.os.trans h.os, k.tape.trans h.tape, k.output.trans h.output, Nat.le_trans h.size k.size, fun i h1 h2 h3 => (k.block i (Nat.lt_of_lt_of_le h1 h.size) h2 h3).trans (h.block i h1 h2 h3)⟩
theorem Mix.of_below {mb B E : Nat} {W W' : World} (h : Below W.heap.size W W') : Mix mb B E W W' := ⟨h.os, h.tape, h.output, h.size, fun k h1 _ _ => h.block k h1⟩
theorem Mix.of_grown {mb B E : Nat} {W W' : World} (h : W.grownBy W' (some mb)) : Mix mb B E W W' := ⟨h.os, h.tape, h.output, h.size, fun k h1 h2 _ => h.block k h1 (fun e => h2 (by injection e))⟩
theorem Mix.of_only {mb B E : Nat} {W W' : World} (h : Only B E W W') : Mix mb B E W W' := ⟨h.os, h.tape, h.output, h.size, fun k h1 _ h3 => h.block k h1 h3⟩
/-- A store into a block that came later. -/
theorem Mix.setCell {mb B E b o : Nat} {W W' : World} {u : Value} (h : Mix mb B E W W') (hb : W.heap.size ≤ b) : Mix mb B E W (W'.setCell ⟨b, o, none⟩ u) := by
  have g := grown_setCell W' b o u
  exact ⟨g.os.trans h.os, g.tape.trans h.tape, g.output.trans h.output, Nat.le_trans h.size g.size, fun k h1 h2 h3 => (g.block k (Nat.lt_of_lt_of_le h1 h.size) (fun e => by injection e with e; omega)).trans (h.block k h1 h2 h3)⟩
theorem Mix.below {mb B E N : Nat} {W W' : World} (h : Mix mb B E W W') (hN : N ≤ W.heap.size) (h1 : N ≤ mb) (h2 : N ≤ B) : Below N W W' := ⟨h.os, h.tape, h.output, h.size, fun k hk => h.block k (by omega) (by omega) (.inl (by omega))⟩
/-- A generation, cell by cell. -/
def stepS (hd : Int) (born stay : Nat) (k tn sh : Int) (w h : Nat) (c : Nat → Nat → Nat) : Nat → Nat → Nat := fun y x => nextN born stay (c y x) (aroundL (offs hd) w (frameLN k tn sh w h c) x y)
def iterS (hd : Int) (born stay : Nat) (k tn sh : Int) (w h : Nat) (c : Nat → Nat → Nat) : Nat → Nat → Nat → Nat
  | 0 => c
  | n + 1 => stepS hd born stay k tn sh w h (iterS hd born stay k tn sh w h c n)
theorem frameLN_lt {k tn sh : Int} {w h : Nat} {c : Nat → Nat → Nat} (hc : ∀ y x, y < h → x < w → c y x < 2) (i : Nat) : (frameLN k tn sh w h c).getD i 0 < 2 := by
  by_cases hi : i < (w + 2) * (h + 2)
  · rw [frameLN_get _ _ _ _ _ _ hi]
    unfold frameAtN frameBN
    have hI : ∀ x y, cellI w h c x y < 2 := fun x y => by
      unfold cellI
      split
      · exact hc _ _ (by omega) (by omega)
      · omega
    split
    · exact hc _ _ (by omega) (by omega)
    · split
      · exact hI _ _
      · omega
  · rw [List.getD_eq_getElem?_getD, List.getElem?_eq_none (by rw [frameLN_len]; omega), Option.getD_none]
    omega
theorem frameLN_in {k tn sh : Int} {w h : Nat} {c : Nat → Nat → Nat} {y x : Nat} (hy : y < h) (hx : x < w) : (frameLN k tn sh w h c).getD ((y + 1) * (w + 2) + 1 + x) 0 = c y x := by
  have hi : (y + 1) * (w + 2) + (1 + x) < (w + 2) * (h + 2) := by
    have h1 : (y + 1 + 1) * (w + 2) ≤ (h + 2) * (w + 2) := Nat.mul_le_mul_right _ (by omega)
    rw [Nat.add_mul, Nat.one_mul, Nat.mul_comm (h + 2)] at h1
    omega
  rw [Nat.add_assoc, frameLN_get _ _ _ _ _ _ hi, frameAtN_at (by omega)]
  unfold frameBN
  have e1 : (((1 + x : Nat) : Int) - 1) = (x : Int) := by omega
  have e2 : (((y + 1 : Nat) : Int) - 1) = (y : Int) := by omega
  rw [e1, e2, if_pos ⟨by omega, by omega, by omega, by omega⟩]
  simp
theorem aroundL_lt {L : List (Int × Int)} {w : Nat} {F : List Nat} {x y : Nat} (hF : ∀ i, F.getD i 0 < 2) (j : Nat) : (aroundL L w F x y).getD j 0 < 2 := by
  by_cases hj : j < L.length
  · unfold aroundL
    rw [List.getD_eq_getElem?_getD, List.getElem?_map, List.getElem?_eq_getElem hj]
    exact hF _
  · rw [List.getD_eq_getElem?_getD, List.getElem?_eq_none (by rw [aroundL_len]; omega), Option.getD_none]
    omega
end Go.Proofs.YtcbhbojplcddkaaGreatDoor
