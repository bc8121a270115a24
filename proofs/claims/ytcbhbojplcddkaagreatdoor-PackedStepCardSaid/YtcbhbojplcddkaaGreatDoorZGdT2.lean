import Derived.Test.YtcbhbojplcddkaaGreatDoorZGdO
import Derived.Test.YtcbhbojplcddkaaGreatDoorZPkO
namespace Go.Proofs.YtcbhbojplcddkaaGreatDoor
open Go.RowKit Go.RowBits Go.Shelf
set_option linter.unusedSimpArgs false
set_option linter.unusedVariables false

/-! ### alive: the row of words, and the text -/
theorem good5 {x : Nat} (hx : x < 32) : RowGood 5 [x] := by
  have hw : W64 [x] := fun j => by
    cases j with
    | zero => show x < U; unfold U; omega
    | succ j => show 0 < U; unfold U; omega
  refine (good_iff rfl hw).2 fun i h1 h2 => ?_
  have h2' : i < 64 := h2
  unfold bitw
  rw [show i / 64 = 0 from by omega, show i % 64 = i from by omega]
  show x.testBit i = false
  exact Nat.testBit_lt_two_pow (Nat.lt_of_lt_of_le (show x < 2 ^ 5 from hx) (Nat.pow_le_pow_right (by decide) h1))
theorem line_alive : pack (lineB (offs 1) 8 12 [14] [0] [0] 3) = [2] := by decide
theorem lineE_alive : lineE 1 8 12 5 5 5 [14] [0] [0] = 0 := by
  unfold lineE
  rw [if_pos may_alive.1, if_pos, if_pos ⟨rfl, rfl⟩]
  have h0 : RowOk 5 [0] := ⟨by decide, by decide, good5 (by decide)⟩
  exact ⟨⟨⟨by decide, by decide, good5 (by decide)⟩, by decide⟩, ⟨h0, by decide⟩, ⟨h0, by decide⟩⟩
theorem pop_alive : (rowsL (iterC 1 8 12 1 0 0 3 3 cA 1) 3 3).length = 3 := by decide
def strv (r : List Nat) : Value := .string ⟨(r.map UInt8.ofNat).toArray⟩
theorem conv_str {W : World} {v : Value} {r : List Nat} (h : HasY W v r) (h2 : ∀ x ∈ r, x < 256) (hpos : 0 < r.length) : (convert 51 9 v).run Tryz.prog W = .ok (strv r) W := by
  obtain ⟨ad, cap, rfl, hc⟩ := h
  obtain ⟨g, o, rfl, _⟩ := hc 0 hpos
  have := run_convert_bytes_back (P := Tryz.prog) W 51 9 5 ⟨g, o, none⟩ cap (r.map UInt8.ofNat) Tryz.underlying51 Tryz.underlying5 Tryz.underlying9 (fun j hj => by
    have hj' : j < r.length := by simpa using hj
    obtain ⟨g', o', e, c⟩ := hc j hj'
    cases e
    rw [Addr.add_lit, c]
    have hx := h2 (r[j]) (List.getElem_mem hj')
    simp [hj', Nat.mod_eq_of_lt hx])
  rw [List.length_map] at this
  exact this
/-- What Line leaves at alive's three rows. -/
theorem line8_alive {w w' : World} {e : Ending} (h : LineIs w w' 1 8 12 5 5 5 [14] [0] [0] e) : ∃ g, e = .returned (.tuple #[.agg #[.int .i64 3, .slice (some ⟨g, 0, none⟩) 1 1], .int .i64 0]) ∧ w.heap.size ≤ g ∧ WBlk w' g [2] ∧ Below w.heap.size w w' := by
  unfold LineIs at h
  rw [if_pos lineE_alive] at h
  obtain ⟨g, h1, h2, h3, h4⟩ := h
  have e3 : ((5 : Int) - 2).toNat = 3 := rfl
  rw [e3, line_alive] at h1 h3
  exact ⟨g, h1, h2, h3, h4⟩
end Go.Proofs.YtcbhbojplcddkaaGreatDoor
namespace Go.Proofs.YtcbhbojplcddkaaGreatDoor
open Go.RowKit Go.RowBits Go.Shelf
set_option linter.unusedSimpArgs false
set_option linter.unusedVariables false
set_option maxRecDepth 20000 in
set_option maxHeartbeats 4000000 in
theorem alive10 (W : World) (hT : Tab W) : Calls Tryz.prog 4 #[] W fun e w' => e = .returned (.bool true) ∧ Below W.heap.size W w' := by
  have K1 := Lib.hid (new_fld (w := 3) (h := 3) (s := 2) (pk := false) (by unfold newOk; decide) (by decide) (fun h => by cases h) W)
  have hT' := Lib.hid hT
  clear hT
  go_enter Tryz.func4, Tryz.ntmps4
  go_wp2_with fail
  refine (K1.out).mono ?_
  rintro e w1 ⟨fb, rfl, f1, hb1⟩
  have f1' := Lib.hid f1
  have hb1' := Lib.hid hb1
  clear f1 hb1 K1
  go_wp2_with fail
  have hY : Hid (YBlk (w1.alloc (.cells #[.int .u8 1, .int .u8 1, .int .u8 1] 5)) w1.heap.size [1, 1, 1]) := YBlk.new w1 _ _ rfl
  have hb2 : Hid (Below W.heap.size W (w1.alloc (.cells #[.int .u8 1, .int .u8 1, .int .u8 1] 5))) := hb1'.out.alloc hb1'.out.size _
  have KL := Lib.hid ((f1'.out.kept (below_new (w := w1) (.cells #[.int .u8 1, .int .u8 1, .int .u8 1] 5))).lay (y := 1) (lb := w1.heap.size) (cap := 3) (by decide) hY.out rfl (by decide) (Nat.le_refl _))
  generalize w1.alloc (.cells #[.int .u8 1, .int .u8 1, .int .u8 1] 5) = w2 at *
  refine (KL.out).mono ?_
  rintro e w3 ⟨rfl, f3, ho3⟩
  have f3' := Lib.hid f3
  have hb3 : Hid (Below W.heap.size W w3) := hb2.out.trans (ho3.below hb2.out.size)
  have hT3 : Hid (Tab w3) := hT'.out.kept hb3.out
  clear f3 ho3 KL
  have KC := Lib.hid (conway9 w3)
  go_wp2_with fail
  refine (KC.out).mono ?_
  rintro e w4 ⟨rfl, hb4⟩
  have hb4' := Lib.hid (below_then hb3.out hb4 hb3.out.size)
  have f4 := Lib.hid (f3'.out.kept hb4)
  have hT4 := Lib.hid (hT3.out.kept hb4)
  clear hb4 KC
  have KN := Lib.hid (next11 (W0 := w4) (hd := 1) (born := 8) (stay := 12) (k := 1) (tn := 0) (sh := 0) (W := 3) (H := 3) (fv := .pointer (some ⟨fb, 0, none⟩)) (R := fun v1 v2 W' w' => ∃ fb' B' E', v1 = .pointer (some ⟨fb', 0, none⟩) ∧ v2 = .int .i64 0 ∧ W'.heap.size ≤ B' ∧ Fld B' E' w' fb' 3 3 2 true (iterC 1 8 12 1 0 0 3 3 cA 1) ∧ Below W'.heap.size W' w') (fun W' hb => (run7 (n := 1) (f4.out.kept hb) (hT4.out.kept hb) (by decide) (by decide) (by decide) (by decide) may_alive (by decide)).mono (by
    rintro e w' ⟨fb', B', E', rfl, h1, h2, h3⟩
    exact ⟨_, _, rfl, fb', B', E', rfl, rfl, h1, h2, h3⟩)))
  go_wp2_with fail
  refine (KN.out).mono ?_
  rintro e w5 ⟨w45, _, _, hb45, rfl, fb5, B5, E5, rfl, rfl, hB5, f5, hb5⟩
  have f5' := Lib.hid f5
  have hb5' := Lib.hid (below_then hb4'.out (below_then hb45 hb5 hb45.size) hb4'.out.size)
  clear f5 hb5 hb45 hB5 KN
  have KI := Lib.hid (f5'.out.line (y := 0) (by decide))
  go_wp2_with fail
  refine (KI.out).mono ?_
  rintro e w6 ⟨g6, rfl, hg6, hY6, hb6⟩
  have hY6' := Lib.hid hY6
  have f6 := Lib.hid (f5'.out.kept hb6)
  have hb6' := Lib.hid (below_then hb5'.out hb6 hb5'.out.size)
  clear hY6 hb6 hg6 KI
  have KC := Lib.hid (conway9 w6)
  go_wp2_with fail
  refine (KC.out).mono ?_
  rintro e w7 ⟨rfl, hb7⟩
  have hY7 := Lib.hid (hY6'.out.kept hb7)
  have f7 := Lib.hid (f6.out.kept hb7)
  have hb7' := Lib.hid (below_then hb6'.out hb7 hb6'.out.size)
  clear hb7 KC
  go_wp2_with fail
  have hr0 := Lib.hid hb7'
  obtain ⟨w8, hw8⟩ : ∃ w8, Hid (w8 = ((w7.alloc (.cells #[.int .u64 14] 61)).alloc (.cells #[.int .u64 0] 61)).alloc (.cells #[.int .u64 0] 61)) := ⟨_, rfl⟩
  have hb78 : Below w7.heap.size w7 w8 := by rw [hw8.out]; exact ((below_new _).alloc (by simp) _).alloc (by simp; omega) _
  have hb8' := Lib.hid (below_then hb7'.out hb78 hb7'.out.size)
  have hY8 := Lib.hid (hY7.out.kept hb78)
  have f8 := Lib.hid (f7.out.kept hb78)
  have hP0 : Hid (WBlk w8 w7.heap.size [14]) := by rw [hw8.out]; exact ((WBlk.new w7 _ [14] rfl).kept (below_new _)).kept (below_new _)
  have hP1 : Hid (WBlk w8 (w7.heap.size + 1) [0]) := by
    rw [hw8.out]
    have := (WBlk.new (w7.alloc (.cells #[.int .u64 14] 61)) #[.int .u64 0] [0] rfl).kept (below_new (.cells #[.int .u64 0] 61))
    rw [World.size_alloc] at this
    exact this
  have hP2 : Hid (WBlk w8 (w7.heap.size + 1 + 1) [0]) := by
    rw [hw8.out]
    have := WBlk.new ((w7.alloc (.cells #[.int .u64 14] 61)).alloc (.cells #[.int .u64 0] 61)) #[.int .u64 0] [0] rfl
    rw [World.size_alloc, World.size_alloc] at this
    exact this
  have KL : Hid (Calls Tryz.prog 15 #[lifeV 1 8 12, .agg #[.int .i64 5, .slice (some ⟨w7.heap.size, 0, none⟩) 1 1], .agg #[.int .i64 5, .slice (some ⟨w7.heap.size + 1, 0, none⟩) 1 1], .agg #[.int .i64 5, .slice (some ⟨w7.heap.size + 1 + 1, 0, none⟩) 1 1]] w8 fun e w' => LineIs w8 w' 1 8 12 5 5 5 [14] [0] [0] e) :=
    pline14 (w := w8) (hood := 1) (born := 8) (stay := 12) (by decide) (by decide) (fun _ => 5) (fn3 (.slice (some ⟨w7.heap.size, 0, none⟩) 1 1) (.slice (some ⟨w7.heap.size + 1, 0, none⟩) 1 1) (.slice (some ⟨w7.heap.size + 1 + 1, 0, none⟩) 1 1)) (fn3 [14] [0] [0])
      (fun j hj => by
        match j, hj with
        | 0, _ => exact hP0.out.has (cap := 1)
        | 1, _ => exact hP1.out.has (cap := 1)
        | 2, _ => exact hP2.out.has (cap := 1))
      (fun j hj => by
        match j, hj with
        | 0, _ => exact (good5 (by decide)).w64
        | 1, _ => exact (good5 (by decide)).w64
        | 2, _ => exact (good5 (by decide)).w64)
  go_wp2_with fail
  rw [← hw8.out]
  refine (KL.out).mono ?_
  rintro e w9 hL
  obtain ⟨g9, rfl, hg9, hW9, hb9⟩ := line8_alive hL
  have hb9' := Lib.hid (below_then hb8'.out hb9 hb8'.out.size)
  have hY9 := Lib.hid (hY8.out.kept hb9)
  have f9 := Lib.hid (f8.out.kept hb9)
  have hW9' := Lib.hid hW9
  have hg9l := hW9.lt
  clear hL hg9 hW9 hb9 KL
  obtain ⟨wA, hwA⟩ : ∃ wA, Hid (wA = w9.alloc (.cells #[.int .i64 3, .slice (some ⟨g9, 0, none⟩) 1 1] 58)) := ⟨_, rfl⟩
  have hbA : Below w9.heap.size w9 wA := by rw [hwA.out]; exact below_new _
  have EA : Hid (wA.heap[w9.heap.size]? = some (.cells #[.int .i64 3, .slice (some ⟨g9, 0, none⟩) 1 1] 58 (0, 0))) := by rw [hwA.out]; exact heap_alloc_new w9 _
  have hYA : YBlk wA g6 [0, 1, 0] := by
    have e : (List.range 3).map (iterC 1 8 12 1 0 0 3 3 cA 1 0) = [0, 1, 0] := by decide
    have := hY9.out.kept hbA
    rw [e] at this
    exact this
  have fA := Lib.hid (f9.out.kept hbA)
  have hbA' := Lib.hid (below_then hb9'.out hbA hb9'.out.size)
  have hWA := Lib.hid (hW9'.out.kept hbA)
  have hzA : Hid (w9.heap.size < wA.heap.size) := by rw [hwA.out]; show _ < _; simp
  have hconv1 : Hid ((convert 51 9 (.slice (some ⟨g6, 0, none⟩) 3 3)).run Tryz.prog wA = .ok (strv [0, 1, 0]) wA) := conv_str (hYA.has (cap := 3)) (by decide) (by decide)
  have hconv1' : Hid ((convert 51 9 (.slice (some ⟨g6, 0, none⟩) 3 3)).run Tryz.prog (w9.alloc (.cells #[.int .i64 3, .slice (some ⟨g9, 0, none⟩) 1 1] 58)) = .ok (strv [0, 1, 0]) (w9.alloc (.cells #[.int .i64 3, .slice (some ⟨g9, 0, none⟩) 1 1] 58))) := by rw [← hwA.out]; exact hconv1.out
  obtain ⟨wB, hwB⟩ : ∃ wB, Hid (wB = wA.alloc (.cells #[.int .u8 0, .int .u8 1, .int .u8 0] 5)) := ⟨_, rfl⟩
  have hbB : Below wA.heap.size wA wB := by rw [hwB.out]; exact below_new _
  have hYB : YBlk wB wA.heap.size [0, 1, 0] := by rw [hwB.out]; exact YBlk.new wA _ _ rfl
  have fB := Lib.hid (fA.out.kept hbB)
  have hbB' := Lib.hid (below_then hbA'.out hbB hbA'.out.size)
  have hWB := Lib.hid (hWA.out.kept hbB)
  have EB : Hid (wB.heap[w9.heap.size]? = some (.cells #[.int .i64 3, .slice (some ⟨g9, 0, none⟩) 1 1] 58 (0, 0))) := by
    have := hbB.block w9.heap.size hzA.out
    rw [EA.out] at this
    exact this
  have hzA1 : wA.heap.size = w9.heap.size + 1 := by rw [hwA.out]; simp
  have hconv2 : (convert 51 9 (.slice (some ⟨wA.heap.size, 0, none⟩) 3 3)).run Tryz.prog wB = .ok (strv [0, 1, 0]) wB := conv_str (hYB.has (cap := 3)) (by decide) (by decide)
  have hconv2' : Hid ((convert 51 9 (.slice (some ⟨w9.heap.size + 1, 0, none⟩) 3 3)).run Tryz.prog ((w9.alloc (.cells #[.int .i64 3, .slice (some ⟨g9, 0, none⟩) 1 1] 58)).alloc (.cells #[.int .u8 0, .int .u8 1, .int .u8 0] 5)) = .ok (strv [0, 1, 0]) ((w9.alloc (.cells #[.int .i64 3, .slice (some ⟨g9, 0, none⟩) 1 1] 58)).alloc (.cells #[.int .u8 0, .int .u8 1, .int .u8 0] 5))) := by
    rw [← hwA.out, ← hwB.out, ← hzA1]; exact hconv2
  have hqg : Hid (∀ x y W, Sem.run Tryz.prog (eqGuard BinOp.eql 9 x y (strv [0, 1, 0]) (strv [0, 1, 0])) W = .ok () W) := fun x y W => rfl
  have hqb : Hid (∀ W, Sem.run Tryz.prog (binOp BinOp.eql 9 (strv [0, 1, 0]) (strv [0, 1, 0])) W = .ok (.bool true) W) := fun W => by
    unfold strv
    go_simp
  have hBB : Hid (wB = (w9.alloc (.cells #[.int .i64 3, .slice (some ⟨g9, 0, none⟩) 1 1] 58)).alloc (.cells #[.int .u8 0, .int .u8 1, .int .u8 0] 5)) := by rw [← hwA.out]; exact hwB.out
  clear hYA hbA hYB hbB hconv2 hzA1
  go_wp2_with (first | (rw [hconv1'.out]) | (rw [hconv2'.out]) | fail)
  simp only [hqg.out, hqb.out, Result.andThen]
  have KP := Lib.hid fB.out.pop
  go_wp2_with fail
  rw [← hBB.out]
  refine (KP.out).mono ?_
  rintro e wC ⟨rfl, hbC⟩
  rw [pop_alive]
  have hbC' := Lib.hid (below_then hbB'.out hbC hbB'.out.size)
  have hWC := Lib.hid (hWB.out.kept hbC)
  have hzB : w9.heap.size < wB.heap.size := (Array.getElem?_eq_some_iff.1 EB.out).1
  have EC : wC.heap[w9.heap.size]? = some (.cells #[.int .i64 3, .slice (some ⟨g9, 0, none⟩) 1 1] 58 (0, 0)) := (hbC.block _ hzB).trans EB.out
  have d0 : wC.cell? ⟨w9.heap.size, 0, none⟩ = some (.int .i64 3) := by rw [cell_of_row wC _ 0 _ 58 (0, 0) EC]; rfl
  have d1 : wC.cell? ⟨w9.heap.size, 1, none⟩ = some (.slice (some ⟨g9, 0, none⟩) 1 1) := by rw [cell_of_row wC _ 1 _ 58 (0, 0) EC]; rfl
  have d2 : wC.cell? ⟨g9, 0, none⟩ = some (.int .u64 2) := hWC.out.cell (j := 0) (by decide)
  clear EC hbC KP
  go_wp2_with fail
  refine bodyPost_ret (v := .bool true) ?_ rfl ⟨rfl, hbC'.out⟩
  simp only [results, Tryz.f4, Array.toList]
  go_simp
end Go.Proofs.YtcbhbojplcddkaaGreatDoor
