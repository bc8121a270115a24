import Derived.Test.YtcbhbojplcddkaaGreatDoorZPkB
import Derived.Test.YtcbhbojplcddkaaGreatDoorZPkA
namespace Go.Proofs.YtcbhbojplcddkaaGreatDoor
open Go.RowKit Go.RowBits
set_option linter.unusedSimpArgs false
set_option linter.unusedVariables false

def downX (ws : List Nat) (j : Nat) : Nat := ws.getD j 0 / 2 + (ws.getD (j + 1) 0 % 2) * 9223372036854775808
def downK (ws : List Nat) (k : Nat) : List Nat := (List.range ws.length).map fun j => if j < k then downX ws j else ws.getD j 0
theorem downK_len (ws : List Nat) (k : Nat) : (downK ws k).length = ws.length := by simp [downK]
theorem downK_zero (ws : List Nat) : downK ws 0 = ws := by
  apply List.ext_getElem
  · simp [downK]
  · intro j h1 h2
    simp [downK, h2]
theorem downK_all (ws : List Nat) : downK ws ws.length = downW ws := by
  unfold downK downW
  apply List.map_congr_left
  intro j hj
  rw [if_pos (List.mem_range.1 hj)]
  rfl
theorem downK_get (ws : List Nat) {k j : Nat} (hj : j < ws.length) (hk : k ≤ j) : (downK ws k).getD j 0 = ws.getD j 0 := by
  unfold downK
  rw [List.getD_eq_getElem?_getD, List.getElem?_map, List.getElem?_range hj, Option.map_some, Option.getD_some, if_neg (by omega)]
theorem downK_succ (ws : List Nat) {k : Nat} (hk : k < ws.length) : downK ws (k + 1) = (downK ws k).set k (downX ws k) := by
  apply List.ext_getElem
  · simp [downK]
  · intro j h1 h2
    simp only [downK, List.getElem_map, List.getElem_range, List.getElem_set]
    by_cases e : k = j
    · subst e; simp
    · rw [if_neg e]
      by_cases h : j < k
      · rw [if_pos h, if_pos (by omega)]
      · rw [if_neg h, if_neg (by omega)]
theorem or_top {x y : Nat} (hx : x < U) (hy : y < U) : bits .or .u64 ((x : Int) / 2) (IntKind.u64.wrap ((y : Int) * 9223372036854775808)) = ((x / 2 + (y % 2) * 9223372036854775808 : Nat) : Int) := by
  have e1 : ((x : Int) / 2) = ((x / 2 : Nat) : Int) := by simp
  have e2 : IntKind.u64.wrap ((y : Int) * 9223372036854775808) = ((y % 2 * 9223372036854775808 : Nat) : Int) := by
    rw [IntKind.wrap_u64]; omega
  rw [e1, e2, u64_or_nat _ _ (by unfold U at hx; omega) (by omega)]
  rw [Nat.or_comm, nat_join 63 _ _ (by omega) (by unfold U at hx; omega), Nat.add_comm]
theorem grown_refl (w : World) (row : Option Nat) : w.grownBy w row := ⟨rfl, rfl, rfl, Nat.le_refl _, fun _ _ _ => rfl⟩
theorem grown_set {w a : World} {g j : Nat} (h : w.grownBy a (some g)) (u : Value) : w.grownBy (a.setCell ⟨g, j, none⟩ u) (some g) :=
  ⟨h.os, h.tape, h.output, by simp [World.setCell]; exact h.size, fun k hk hne => (heap_setCell_other a ⟨g, j, none⟩ k u (fun e => hne (by rw [e]))).trans (h.block k hk hne)⟩
theorem grown_drew {w a : World} {row : Option Nat} (h : w.grownBy a row) : w.grownBy a.drew row := ⟨h.os, h.tape, h.output, h.size, h.block⟩
theorem WBlk.drew {w : World} {g : Nat} {ws : List Nat} (h : WBlk w g ws) : WBlk w.drew g ws := h

def DR (w3 : World) (g : Nat) (ws : List Nat) (i : Value) (wr : World) : Prop := ∃ k : Nat, k ≤ ws.length ∧ i = .int .i64 (k : Int) ∧ WBlk wr g (downK ws k) ∧ w3.grownBy wr (some g)

theorem half_cast (x : Nat) : ((x : Int) / 2) = ((x / 2 : Nat) : Int) := by simp
theorem DR.step {w3 wr : World} {g : Nat} {ws : List Nat} {k x y : Nat} (hk : k + 1 < ws.length) (hw : W64 ws) (hx : ws.getD k 0 = x) (hy : ws.getD (k + 1) 0 = y) (hW : WBlk wr g (downK ws k)) (hG : w3.grownBy wr (some g)) :
    DR w3 g ws (.int .i64 ((k : Int) + 1)) ((wr.setCell ⟨g, k, none⟩ (.int .u64 ((x : Int) / 2))).setCell ⟨g, k, none⟩ (.int .u64 (bits .or .u64 ((x : Int) / 2) (IntKind.u64.wrap ((y : Int) * 9223372036854775808))))).drew := by
  have h1 : x < U := by rw [← hx]; exact hw k
  have h2 : y < U := by rw [← hy]; exact hw (k + 1)
  rw [or_top h1 h2, half_cast]
  have e : downX ws k = x / 2 + (y % 2) * 9223372036854775808 := by unfold downX; rw [hx, hy]
  refine ⟨k + 1, by omega, by go_num, ?_, grown_drew (grown_set (grown_set hG _) _)⟩
  rw [downK_succ ws (by omega), e]
  have := (hW.set (j := k) (x / 2)).set (j := k) (x / 2 + (y % 2) * 9223372036854775808)
  rw [List.set_set] at this
  exact this.drew
theorem DR.last {w3 wr : World} {g : Nat} {ws : List Nat} {k x : Nat} (hk : k < ws.length) (hl : ¬ k + 1 < ws.length) (hx : ws.getD k 0 = x) (hW : WBlk wr g (downK ws k)) (hG : w3.grownBy wr (some g)) :
    DR w3 g ws (.int .i64 ((k : Int) + 1)) (wr.setCell ⟨g, k, none⟩ (.int .u64 ((x : Int) / 2))) := by
  rw [half_cast]
  have e : downX ws k = x / 2 := by
    have h0 : ws.getD (k + 1) 0 = 0 := by rw [List.getD_eq_getElem?_getD, List.getElem?_eq_none (by omega), Option.getD_none]
    unfold downX
    rw [hx, h0]
    omega
  refine ⟨k + 1, by omega, by go_num, ?_, grown_set hG _⟩
  rw [downK_succ ws hk, e]
  exact hW.set (j := k) (x / 2)

set_option maxRecDepth 20000 in
set_option maxHeartbeats 4000000 in
theorem down_any {n : Nat} {v : Value} {ws : List Nat} {w : World} (hn : n ≤ 65538) (h0 : 0 < n) (hg : RowGood n ws) (h : HasW w v ws) :
    Calls Tryz.prog 49 #[.agg #[.int .i64 (n : Int), v], .bool false] w fun e w' => ∃ g b, e = .returned (.tuple #[.agg #[.int .i64 (n : Int), .slice (some ⟨g, 0, none⟩) ws.length ws.length], .bool b, .int .i64 0]) ∧
    w.heap.size ≤ g ∧ WBlk w' g (downW ws) ∧ Below w.heap.size w w' := by
  have hl := hg.len
  have hL0 : 0 < ws.length := by omega
  have K1 : Hid (∀ W, HasW W v ws → Calls Tryz.prog 37 #[.agg #[.int .i64 (n : Int), v]] W fun e w' => e = .returned (.bool true) ∧ Below W.heap.size W w') := fun W hW => by
    have := valid_any (n : Int) hW hg.w64
    rw [rowOk_yes (N := (n : Int)) ⟨by omega, by omega, by simpa using hg⟩] at this
    exact this
  have K2 : Hid (∀ W, HasW W v ws → Calls Tryz.prog 53 #[.agg #[.int .i64 (n : Int), v]] W fun e w' => ∃ g, e = .returned (.agg #[.int .i64 (n : Int), .slice (some ⟨g, 0, none⟩) ws.length ws.length]) ∧
    W.heap.size ≤ g ∧ WBlk w' g ws ∧ Below W.heap.size W w') := fun W hW => clone_any hn hl hW
  have h' := Lib.hid h
  obtain ⟨ad, cap, rfl, hc⟩ := h
  obtain ⟨g0, o0, rfl, hx0⟩ := hc 0 hL0
  have hw := Lib.hid hg.w64
  have hda := Lib.hid (downK_all ws)
  have hg0 : g0 < w.heap.size := World.block_lt_of_cell? w _ hx0
  have hx0' : w.cell? ⟨g0, o0, none⟩ = some (.int .u64 ((ws.getD 0 0 : Nat) : Int)) := by simpa using hx0
  have hL1 : ws.length ≤ 1025 := by omega
  generalize hL : ws.length = L at *
  have hL' := Lib.hid hL
  clear hc hx0 hl hL
  generalize ws.getD 0 0 = X0 at *
  go_enter Tryz.func49, Tryz.ntmps49
  go_wp2_with fail
  refine (K1.out _ ((h'.out.kept (below_new _)).kept (below_new _))).mono ?_
  rintro e w1 ⟨rfl, hb⟩
  obtain ⟨hc1, hf1⟩ := bcell hb
  have hz1 : w.heap.size + 2 ≤ w1.heap.size := by have := hb.size; simp at this; omega
  have hz2 : w.heap.size < w1.heap.size := by omega
  have hz3 : w.heap.size + 1 < w1.heap.size := by omega
  have hz4 : g0 < w1.heap.size := by omega
  have hh1 := Lib.hid (((h'.out.kept (below_new (.cells #[.int .i64 (n : Int), .slice (some ⟨g0, o0, none⟩) L cap] 58))).kept (below_new (.cells #[.int .i64 0, .slice none 0 0] 58))).kept hb)
  have hB1 := Lib.hid (below_then (B := w.heap.size) (Below.alloc (below_new (w := w) (.cells #[.int .i64 (n : Int), .slice (some ⟨g0, o0, none⟩) L cap] 58)) (by simp) (.cells #[.int .i64 0, .slice none 0 0] 58)) hb (by simp; omega))
  have hx1 : w1.cell? ⟨g0, o0, none⟩ = some (.int .u64 (X0 : Int)) := by
    rw [hc1 g0 o0 (by simp; omega)]
    go_simp
  clear hb
  go_wp2_with fail
  refine (K2.out _ hh1.out).mono ?_
  rintro e w2 ⟨g, rfl, hgl, hblk, hb⟩
  obtain ⟨hc2, hf2⟩ := bcell hb
  have hz5 : w1.heap.size ≤ w2.heap.size := hb.size
  have hz6 : w.heap.size < w2.heap.size := by omega
  have hz7 : w.heap.size + 1 < w2.heap.size := by omega
  have hz8 := hblk.lt
  have hB2 := Lib.hid (below_then hB1.out hb (by omega))
  have hblk' := Lib.hid hblk
  clear hb hblk
  go_wp2
  go_loopw [30] (fun i wr => DR (w2.alloc (.cells #[.int .i64 (n : Int), .slice (some ⟨g, 0, none⟩) L L] 58)) g ws i wr) (fun i _ => L - (intOf i).toNat)
  case atStart => exact ⟨0, by omega, by go_num, by rw [downK_zero]; exact hblk'.out.kept (below_new _), grown_refl _ _⟩
  case round =>
    obtain ⟨k, hk, rfl, hW, hG⟩ := hrel
    rw [hL'.out] at hk
    have hW' := Lib.hid hW
    have hG' := Lib.hid hG
    have hzr : w2.heap.size < wr.heap.size := by have := hG.size; simp at this; omega
    have cc0 : wr.cell? ⟨w2.heap.size, 0, none⟩ = some (.int .i64 (n : Int)) := hG.cell (by go_simp) (fun e => by have : w2.heap.size = g := Option.some.inj e; omega)
    have cc1 : wr.cell? ⟨w2.heap.size, 1, none⟩ = some (.slice (some ⟨g, 0, none⟩) L L) := hG.cell (by go_simp) (fun e => by have : w2.heap.size = g := Option.some.inj e; omega)
    clear hW hG
    by_cases hlt : k < L
    · have d1 : wr.cell? ⟨g, k, none⟩ = some (.int .u64 ((ws.getD k 0 : Nat) : Int)) := by
        rw [hW'.out.cell (by rw [downK_len, hL'.out]; exact hlt), downK_get ws (by rw [hL'.out]; exact hlt) (Nat.le_refl _)]
      have f1 := hW'.out.frozen k
      have f2 := hW'.out.frozen (k + 1)
      by_cases hlast : k + 1 < L
      · have d2 : wr.cell? ⟨g, k + 1, none⟩ = some (.int .u64 ((ws.getD (k + 1) 0 : Nat) : Int)) := by
          rw [hW'.out.cell (by rw [downK_len, hL'.out]; exact hlast), downK_get ws (by rw [hL'.out]; exact hlast) (by omega)]
        obtain ⟨x, hx⟩ : ∃ x, ws.getD k 0 = x := ⟨_, rfl⟩
        obtain ⟨y, hy⟩ : ∃ y, ws.getD (k + 1) 0 = y := ⟨_, rfl⟩
        rw [hx] at d1
        rw [hy] at d2
        have hx' := Lib.hid hx
        have hy' := Lib.hid hy
        clear hx hy
        have R := Lib.hid (DR.step (by rw [hL'.out]; exact hlast) hw.out hx'.out hy'.out hW'.out hG'.out)
        go_wp2
        go_region
        go_wp2
        exact ⟨R.out, by simp [intOf]; omega⟩
      · obtain ⟨x, hx⟩ : ∃ x, ws.getD k 0 = x := ⟨_, rfl⟩
        rw [hx] at d1
        have hx' := Lib.hid hx
        clear hx
        have R := Lib.hid (DR.last (by rw [hL'.out]; exact hlt) (by rw [hL'.out]; exact hlast) hx'.out hW'.out hG'.out)
        go_wp2
        exact ⟨R.out, by simp [intOf]; omega⟩
    · obtain rfl : k = L := by omega
      clear hlt
      have hcr : ∀ b o, b < w2.heap.size → b ≠ g → wr.cell? ⟨b, o, none⟩ = w2.cell? ⟨b, o, none⟩ := fun b o hb hne => by
        have h1 := World.cell?_of_block (w := w2.alloc (.cells #[.int .i64 (n : Int), .slice (some ⟨g, 0, none⟩) k k] 58)) (w' := wr) (a := ⟨b, o, none⟩) (hG'.out.block b (by simp; omega) (fun e => hne (Option.some.inj e)))
        rw [h1]
        exact (below_new _).cell (p := ⟨b, o, none⟩) hb
      have hfr : ∀ b o, b < w2.heap.size → b ≠ g → wr.frozen? ⟨b, o, none⟩ = w2.frozen? ⟨b, o, none⟩ := fun b o hb hne => by
        have h1 := World.frozen?_of_block (w := w2.alloc (.cells #[.int .i64 (n : Int), .slice (some ⟨g, 0, none⟩) k k] 58)) (w' := wr) (a := ⟨b, o, none⟩) (hG'.out.block b (by simp; omega) (fun e => hne (Option.some.inj e)))
        rw [h1]
        exact (below_new _).frozen (p := ⟨b, o, none⟩) hb
      have hng : w.heap.size + 1 ≠ g := by omega
      have hfin : Below w.heap.size w wr := (hB2.out.alloc (by omega) _).grown hG'.out (by simp; omega) (fun q e => by cases e; omega)
      have hfin' := Lib.hid hfin
      have hz9 : w.heap.size + 1 < wr.heap.size := by omega
      clear hfin
      go_wp2
      try simp only [Exit.inBlock, Exit.then]
      refine bodyPost_ret (v := .tuple #[.agg #[.int .i64 (n : Int), .slice (some ⟨g, 0, none⟩) k k], .bool (bits .and .u64 (X0 : Int) 1 == 1), .int .i64 0]) ?_ rfl ⟨g, _, rfl, by omega, ?_, ?_⟩
      · rw [results_cell3 rfl]
        go_simp
      · rw [← hda.out]
        exact WBlk.setOther (WBlk.setOther hW'.out (fun e => hng e.symm) _) (fun e => hng e.symm) _
      · exact (hfin'.out.setCell (by simp) _).setCell (by simp) _
end Go.Proofs.YtcbhbojplcddkaaGreatDoor
namespace Go.Proofs.YtcbhbojplcddkaaGreatDoor
open Go.RowKit
set_option linter.unusedSimpArgs false
set_option linter.unusedVariables false


/-- The neighbours of Moore's neighbourhood, in their order. -/
def moore : List (Int × Int) := [(0, -1), (1, -1), (1, 0), (1, 1), (0, 1), (-1, 1), (-1, 0), (-1, -1)]
/-- Which of them a neighbourhood has. -/
def mask (h : Int) : List Bool :=
  if h = 1 then [true, true, true, true, true, true, true, true]
  else if h = 2 then [true, false, true, false, true, false, true, false]
  else if h = 3 then [true, false, true, true, true, false, true, true]
  else [false, false, false, false, false, false, false, false]
def hoodErr (h : Int) : Int := if h = 1 ∨ h = 2 ∨ h = 3 then 0 else 70
def hbits (l : List Bool) : Array Value := (l.map Value.bool).toArray

set_option maxHeartbeats 400000 in
theorem within_any (h : Int) (w : World) :
    Calls Tryz.prog 70 #[.int .u8 h] w fun e w' => e = .returned (.tuple #[.agg (hbits (mask h)), .int .i64 (hoodErr h)]) ∧ Below w.heap.size w w' := by
  by_cases h1 : h = 1
  · subst h1
    go_enter Tryz.func70, Tryz.ntmps70
    go_wp2
    exact bodyPost_ret (v := .tuple #[.agg (hbits (mask 1)), .int .i64 (hoodErr 1)]) (by simp [results, Tryz.results70, go_sem, hbits, mask, hoodErr]) rfl ⟨rfl, below_new _⟩
  by_cases h2 : h = 2
  · subst h2
    go_enter Tryz.func70, Tryz.ntmps70
    go_wp2
    exact bodyPost_ret (v := .tuple #[.agg (hbits (mask 2)), .int .i64 (hoodErr 2)]) (by simp [results, Tryz.results70, go_sem, hbits, mask, hoodErr]) rfl ⟨rfl, below_new _⟩
  by_cases h3 : h = 3
  · subst h3
    go_enter Tryz.func70, Tryz.ntmps70
    go_wp2
    exact bodyPost_ret (v := .tuple #[.agg (hbits (mask 3)), .int .i64 (hoodErr 3)]) (by simp [results, Tryz.results70, go_sem, hbits, mask, hoodErr]) rfl ⟨rfl, below_new _⟩
  go_enter Tryz.func70, Tryz.ntmps70
  go_wp2
  exact bodyPost_ret (v := .tuple #[.agg (hbits (mask h)), .int .i64 (hoodErr h)]) (by simp [results, Tryz.results70, go_sem, hbits, mask, hoodErr, h1, h2, h3]) rfl ⟨rfl, below_new _⟩

def ptCells (l : List (Int × Int)) : List Value := l.flatMap fun p => [.int .i64 p.1, .int .i64 p.2]

set_option maxHeartbeats 1000000 in
theorem all_any (w : World) :
    Calls Tryz.prog 71 #[] w fun e w' => e = .returned (.agg (ptCells moore).toArray) ∧ Below w.heap.size w w' := by
  go_enter Tryz.func71, Tryz.ntmps71
  go_wp2
  exact bodyPost_ret (v := .agg (ptCells moore).toArray) (by simp [results, Tryz.results71, go_sem, ptCells, moore]) rfl ⟨rfl, by repeat (first | exact Below.refl _ _ | refine Below.alloc ?_ (by first | omega | (simp; done) | (simp; omega)) _ | refine Below.setCell ?_ (by first | omega | (simp; done) | (simp; omega)) _ | refine Below.drew ?_)⟩

/-! ### The offsets -/
def mk (h : Int) (j : Nat) : Bool := (mask h).getD j false
def mpt (j : Nat) : Int × Int := moore.getD j (0, 0)
def offK (h : Int) (k : Nat) : List (Int × Int) := ((List.range k).filter (mk h)).map mpt
def offs (h : Int) : List (Int × Int) := offK h 8
theorem offK_yes {h : Int} {k : Nat} (hm : mk h k = true) : offK h (k + 1) = offK h k ++ [mpt k] := by
  unfold offK; rw [List.range_succ, List.filter_append, List.map_append]; simp [hm]
theorem offK_no {h : Int} {k : Nat} (hm : mk h k = false) : offK h (k + 1) = offK h k := by
  unfold offK; rw [List.range_succ, List.filter_append, List.map_append]; simp [hm]
theorem offK_len (h : Int) (k : Nat) : (offK h k).length ≤ k := by
  unfold offK; rw [List.length_map]; exact Nat.le_trans (List.length_filter_le _ _) (by simp)
theorem ptCells_append (l m : List (Int × Int)) : ptCells (l ++ m) = ptCells l ++ ptCells m := by unfold ptCells; exact List.flatMap_append
theorem ptCells_len (l : List (Int × Int)) : (ptCells l).length = l.length * 2 := by
  induction l with
  | nil => rfl
  | cons p l ih => unfold ptCells at *; rw [List.flatMap_cons, List.length_append, ih]; simp; omega

theorem info111 : (Tryz.prog.info? 111).map (fun i => (i.zero, i.size, i.bytes)) = some (some (.agg #[.int .i64 0, .int .i64 0]), 2, 16) := by kernel_rfl



theorem mask8 (h : Int) : ∃ b0 b1 b2 b3 b4 b5 b6 b7, mask h = [b0, b1, b2, b3, b4, b5, b6, b7] := by
  unfold mask
  split
  · exact ⟨_, _, _, _, _, _, _, _, rfl⟩
  · split
    · exact ⟨_, _, _, _, _, _, _, _, rfl⟩
    · split <;> exact ⟨_, _, _, _, _, _, _, _, rfl⟩

/-- The loop's head in Offsets. -/
def OffRel (w : World) (Bm Ba : Nat) (h : Int) (l i : Value) (wr : World) : Prop :=
  ∃ k : Nat, k ≤ 8 ∧ i = .int .i64 (k : Int) ∧ wr.ownsRow (Ba + 1) 111 2 l (offK h k).length (ptCells (offK h k)) ∧
    (∀ j, j < 8 → wr.cell? ⟨Bm, j, none⟩ = some (.bool (mk h j))) ∧
    (∀ j, j < 8 → wr.cell? ⟨Ba, j * 2, none⟩ = some (.int .i64 (mpt j).1) ∧ wr.cell? ⟨Ba, j * 2 + 1, none⟩ = some (.int .i64 (mpt j).2)) ∧
    Below w.heap.size w wr

theorem off_no {w wr : World} {Bm Ba : Nat} {h : Int} {l : Value} {k : Nat} (o : Obj) (hk : k < 8) (hm : mk h k = false) (h1 : wr.ownsRow (Ba + 1) 111 2 l (offK h k).length (ptCells (offK h k)))
    (h2 : ∀ j, j < 8 → wr.cell? ⟨Bm, j, none⟩ = some (.bool (mk h j)))
    (h3 : ∀ j, j < 8 → wr.cell? ⟨Ba, j * 2, none⟩ = some (.int .i64 (mpt j).1) ∧ wr.cell? ⟨Ba, j * 2 + 1, none⟩ = some (.int .i64 (mpt j).2))
    (h4 : Below w.heap.size w wr) : OffRel w Bm Ba h l (.int .i64 ((k : Int) + 1)) (wr.alloc o).drew := by
  have hb : Below wr.heap.size wr (wr.alloc o).drew := Below.drew (below_new o)
  refine ⟨k + 1, by omega, by go_num, ?_, fun j hj => cell_kept hb (h2 j hj), fun j hj => ⟨cell_kept hb (h3 j hj).1, cell_kept hb (h3 j hj).2⟩, below_then h4 hb h4.size⟩
  rw [offK_no hm]
  exact (h1.alloc o).drew

theorem off_yes {w wr w' : World} {Bm Ba : Nat} {h : Int} {l l' : Value} {k : Nat} (o o' : Obj) (hk : k < 8) (hm : mk h k = true) (hBm : Bm ≤ Ba) (hw : w.heap.size ≤ Bm) (h1 : wr.ownsRow (Ba + 1) 111 2 l (offK h k).length (ptCells (offK h k)))
    (h2 : ∀ j, j < 8 → wr.cell? ⟨Bm, j, none⟩ = some (.bool (mk h j)))
    (h3 : ∀ j, j < 8 → wr.cell? ⟨Ba, j * 2, none⟩ = some (.int .i64 (mpt j).1) ∧ wr.cell? ⟨Ba, j * 2 + 1, none⟩ = some (.int .i64 (mpt j).2))
    (h4 : Below w.heap.size w wr)
    (g1 : w'.ownsRow (Ba + 1) 111 2 l' ((offK h k).length + 1) (ptCells (offK h k) ++ [.int .i64 (mpt k).1, .int .i64 (mpt k).2])) (g2 : ((wr.alloc o).drew.alloc o').grownBy w' l.ownBlock) :
    OffRel w Bm Ba h l' (.int .i64 ((k : Int) + 1)) w' := by
  have hb : Below wr.heap.size wr ((wr.alloc o).drew.alloc o') := Below.alloc (Below.drew (below_new o)) (by simp) _
  have hne : ∀ b, b ≤ Ba → some b ≠ l.ownBlock := fun b hb' e => by have := h1.lt b e.symm; omega
  refine ⟨k + 1, by omega, by go_num, ?_, fun j hj => g2.cell (cell_kept hb (h2 j hj)) (hne _ hBm), fun j hj => ⟨g2.cell (cell_kept hb (h3 j hj).1) (hne _ (Nat.le_refl _)), g2.cell (cell_kept hb (h3 j hj).2) (hne _ (Nat.le_refl _))⟩, ?_⟩
  · rw [offK_yes hm, List.length_append, ptCells_append]
    exact g1
  · exact Below.grown (below_then h4 hb h4.size) g2 (by have := h4.size; simp; omega) (fun b e => by have := h1.lt b e; omega)

set_option maxHeartbeats 4000000 in
set_option maxRecDepth 20000 in
theorem offsets_good {h : Int} (hh : h = 1 ∨ h = 2 ∨ h = 3) (w : World) :
    Calls Tryz.prog 50 #[.int .u8 h] w fun e w' => ∃ v, e = .returned (.tuple #[v, .int .i64 0]) ∧ w'.ownsRow w.heap.size 111 2 v (offs h).length (ptCells (offs h)) ∧ Below w.heap.size w w' := by
  obtain ⟨b0, b1, b2, b3, b4, b5, b6, b7, hmask⟩ := mask8 h
  have K10 := fun W => within_any h W
  have K20 := fun W => all_any W
  have he : hoodErr h = 0 := by unfold hoodErr; rw [if_pos hh]
  rw [hmask, he] at K10
  simp only [hbits, ptCells, moore, List.map_cons, List.map_nil, List.flatMap_cons, List.flatMap_nil, List.cons_append, List.nil_append] at K10 K20
  have hmk : (mk h 0 = b0 ∧ mk h 1 = b1 ∧ mk h 2 = b2 ∧ mk h 3 = b3) ∧ (mk h 4 = b4 ∧ mk h 5 = b5 ∧ mk h 6 = b6 ∧ mk h 7 = b7) := by simp [mk, hmask]
  have HM := Lib.hid hmk
  have K1 := Lib.hid K10
  have K2 := Lib.hid K20
  clear hmask hmk K10 K20 he
  obtain ⟨i0, hi, hz0, hz1, hz2⟩ := info_parts info111
  have hi' := Lib.hid hi
  clear hi
  go_enter Tryz.func50, Tryz.ntmps50
  go_wp2_with fail
  refine (K1.out _).mono ?_
  rintro e w1 ⟨rfl, hb⟩
  have hB1 := Lib.hid hb
  have hs1 : w.heap.size ≤ w1.heap.size := hb.size
  clear hb
  go_wp2_with fail
  refine (K2.out _).mono ?_
  rintro e w2 ⟨rfl, hb⟩
  obtain ⟨hc2, hf2⟩ := bcell hb
  have hs2 : w1.heap.size < w2.heap.size := by have := hb.size; (try simp at this); omega
  have hB2 := Lib.hid (below_then (B := w.heap.size) (w := w) (Below.alloc hB1.out hs1 _) hb (by simp; omega))
  clear hb
  go_wp2
  go_loopw [7, 20] (fun l i wr => OffRel w w1.heap.size w2.heap.size h l i wr) (fun _ i _ => 8 - (intOf i).toNat)
  case atStart =>
    refine ⟨0, by omega, by go_num, World.ownsRow_nil _ _ _ _, ?_, ?_, ?_⟩
    · obtain ⟨⟨m0, m1, m2, m3⟩, m4, m5, m6, m7⟩ := HM.out
      intro j hj
      match j, hj with
      | 0, _ => rw [m0]; go_simp
      | 1, _ => rw [m1]; go_simp
      | 2, _ => rw [m2]; go_simp
      | 3, _ => rw [m3]; go_simp
      | 4, _ => rw [m4]; go_simp
      | 5, _ => rw [m5]; go_simp
      | 6, _ => rw [m6]; go_simp
      | 7, _ => rw [m7]; go_simp
    · intro j hj
      match j, hj with
      | 0, _ => exact ⟨by go_simp; rfl, by go_simp; rfl⟩
      | 1, _ => exact ⟨by go_simp; rfl, by go_simp; rfl⟩
      | 2, _ => exact ⟨by go_simp; rfl, by go_simp; rfl⟩
      | 3, _ => exact ⟨by go_simp; rfl, by go_simp; rfl⟩
      | 4, _ => exact ⟨by go_simp; rfl, by go_simp; rfl⟩
      | 5, _ => exact ⟨by go_simp; rfl, by go_simp; rfl⟩
      | 6, _ => exact ⟨by go_simp; rfl, by go_simp; rfl⟩
      | 7, _ => exact ⟨by go_simp; rfl, by go_simp; rfl⟩
    · exact Below.alloc hB2.out (by have := hB2.out.size; omega) _
  case round =>
    obtain ⟨k, hk, rfl, hown, hm, hp, hBel⟩ := hrel
    clear hc2 hf2
    have hB0 := Lib.hid hBel
    have hO := Lib.hid hown
    have hM := Lib.hid hm
    have hP := Lib.hid hp
    clear hBel hown hm hp
    by_cases hlt : k < 8
    · have mk' := hM.out k hlt
      obtain ⟨p1, p2⟩ := hP.out k hlt
      have hml := World.block_lt_of_cell? wr _ mk'
      have hpl := World.block_lt_of_cell? wr _ p1
      have hne : w1.heap.size ≠ w2.heap.size := by omega
      generalize hX : (mpt k).1 = X at *
      generalize hY : (mpt k).2 = Y at *
      have hX' := Lib.hid hX
      have hY' := Lib.hid hY
      clear hX hY
      cases hb : mk h k with
      | false =>
        rw [hb] at mk'
        go_wp2
        go_region
        go_wp2
        refine ⟨?_, by simp [intOf]; omega⟩
        exact off_no _ hlt hb hO.out hM.out hP.out hB0.out
      | true =>
        rw [hb] at mk'
        go_wp2
        go_region
        have hlen := offK_len h k
        go_wp2_with (first
          | (at_builtin; refine wpList_append_own _ rfl _ _ 120 rfl (w2.heap.size + 1) 111 i0 _ 2 16 Tryz.underlying120 hi'.out hz0 hz1 hz2 rfl (by decide) _ _ _ rfl ((hO.out.alloc _).drew.alloc _) ⟨wr.heap.size + 1, 0, none⟩ 1 1 [.int .i64 X, .int .i64 Y] rfl rfl ?c1 ?c2 ?c3 ?c4 ?c5 ?_)
          | go_in)
        case c1 =>
          intro j u hj
          match j, hj with
          | 0, hj => simp at hj; subst hj; simp [Addr.add]
          | 1, hj => simp at hj; subst hj; simp [Addr.add]
        case c2 => intro u hu; simp at hu; rcases hu with rfl | rfl <;> rfl
        case c3 => unfold maxLen; omega
        case c4 => omega
        case c5 => have := hs2; simp; omega
        intro v' w3 hown' hgrow _
        have R := off_yes (w := w) (Bm := w1.heap.size) (l' := v') _ _ hlt hb (by omega) hs1 hO.out hM.out hP.out hB0.out (by rw [hX'.out, hY'.out]; exact hown') hgrow
        have R' := Lib.hid R
        clear hown' hgrow R
        go_wp2
        exact ⟨R'.out, by simp [intOf]; omega⟩
    · obtain rfl : k = 8 := by omega
      go_wp2
      go_ret2
      exact ⟨_, rfl, ownsRow_base (by have := hB2.out.size; omega) hO.out, hB0.out⟩
/-- The slice v reads as the places l. -/
def HasPts (w : World) (v : Value) (l : List (Int × Int)) : Prop :=
  ∃ (ad : Option Addr) (cap : Nat), v = .slice ad l.length cap ∧ ∀ j, j < l.length → ∃ g, ad = some ⟨g, 0, none⟩ ∧
    w.cell? ⟨g, j * 2, none⟩ = some (.int .i64 (l.getD j (0, 0)).1) ∧ w.cell? ⟨g, j * 2 + 1, none⟩ = some (.int .i64 (l.getD j (0, 0)).2)
theorem HasPts.nil (w : World) : HasPts w (.slice none 0 0) [] := ⟨none, 0, rfl, fun j hj => by simp at hj⟩
theorem HasPts.kept {w w' : World} {v : Value} {l : List (Int × Int)} (h : HasPts w v l) (hb : Below w.heap.size w w') : HasPts w' v l := by
  obtain ⟨ad, cap, hv, hc⟩ := h
  refine ⟨ad, cap, hv, fun j hj => ?_⟩
  obtain ⟨g, hg, c1, c2⟩ := hc j hj
  exact ⟨g, hg, cell_kept hb c1, cell_kept hb c2⟩
theorem ptCells_get (l : List (Int × Int)) : ∀ j, j < l.length → (ptCells l)[j * 2]? = some (.int .i64 (l.getD j (0, 0)).1) ∧ (ptCells l)[j * 2 + 1]? = some (.int .i64 (l.getD j (0, 0)).2) := by
  induction l with
  | nil => intro j hj; simp at hj
  | cons p l ih =>
    intro j hj
    have e : ptCells (p :: l) = .int .i64 p.1 :: .int .i64 p.2 :: ptCells l := rfl
    cases j with
    | zero => rw [e]; exact ⟨rfl, rfl⟩
    | succ j =>
      have := ih j (by simpa using hj)
      rw [e, show (j + 1) * 2 = j * 2 + 1 + 1 from by omega]
      simpa using this

theorem HasPts.own {w : World} {base : Nat} {v : Value} {l : List (Int × Int)} (h : w.ownsRow base 111 2 v l.length (ptCells l)) : HasPts w v l := by
  rcases h.2 with ⟨hv, hn⟩ | ⟨g, cap, cur, hv, hr⟩
  · exact ⟨none, 0, by rw [hv, hn], fun j hj => by omega⟩
  · subst hv
    refine ⟨_, cap, rfl, fun j hj => ⟨g, rfl, ?_, ?_⟩⟩
    · rw [h.cellAt (j * 2) (by omega)]; exact (ptCells_get l j hj).1
    · rw [h.cellAt (j * 2 + 1) (by omega)]; exact (ptCells_get l j hj).2


theorem offs_bad {h : Int} (hh : ¬ (h = 1 ∨ h = 2 ∨ h = 3)) : offs h = [] := by
  have : ∀ j, mk h j = false := by
    intro j
    unfold mk mask
    rw [if_neg (by omega), if_neg (by omega), if_neg (by omega)]
    match j with
    | 0 | 1 | 2 | 3 | 4 | 5 | 6 | 7 => rfl
    | j + 8 => simp
  unfold offs offK
  rw [List.map_eq_nil_iff, List.filter_eq_nil_iff]
  intro j _
  simp [this j]
theorem offs_1 : offs 1 = moore := by decide
theorem offs_2 : offs 2 = [(0, -1), (1, 0), (0, 1), (-1, 0)] := by decide
theorem offs_3 : offs 3 = [(0, -1), (1, 0), (1, 1), (0, 1), (-1, 0), (-1, -1)] := by decide
theorem offs_len (h : Int) : (offs h).length ≤ 8 := offK_len h 8
theorem hoodErr_good {h : Int} (hh : h = 1 ∨ h = 2 ∨ h = 3) : hoodErr h = 0 := by unfold hoodErr; rw [if_pos hh]
theorem hoodErr_bad {h : Int} (hh : ¬ (h = 1 ∨ h = 2 ∨ h = 3)) : hoodErr h = 70 := by unfold hoodErr; rw [if_neg hh]

set_option maxHeartbeats 1000000 in
theorem offsets_any (h : Int) (w : World) :
    Calls Tryz.prog 50 #[.int .u8 h] w fun e w' => ∃ v, e = .returned (.tuple #[v, .int .i64 (hoodErr h)]) ∧ w'.ownsRow w.heap.size 111 2 v (offs h).length (ptCells (offs h)) ∧ Below w.heap.size w w' := by
  by_cases hh : h = 1 ∨ h = 2 ∨ h = 3
  · rw [hoodErr_good hh]
    exact offsets_good hh w
  · obtain ⟨b0, b1, b2, b3, b4, b5, b6, b7, hmask⟩ := mask8 h
    have K10 := fun W => within_any h W
    rw [hmask, hoodErr_bad hh] at K10
    rw [hoodErr_bad hh, offs_bad hh]
    simp only [hbits, List.map_cons, List.map_nil] at K10
    have K1 := Lib.hid K10
    clear K10 hmask hh
    go_enter Tryz.func50, Tryz.ntmps50
    go_wp2_with fail
    refine (K1.out _).mono ?_
    rintro e w1 ⟨rfl, hb⟩
    have hB1 := Lib.hid hb
    have hs1 : w.heap.size ≤ w1.heap.size := hb.size
    clear hb
    go_wp2
    go_ret2
    exact ⟨_, rfl, World.ownsRow_nil _ _ _ _, Below.alloc hB1.out hs1 _⟩

set_option maxHeartbeats 1000000 in
theorem size_any (h : Int) (w : World) :
    Calls Tryz.prog 76 #[.int .u8 h] w fun e w' => e = .returned (.tuple #[.int .i64 (offs h).length, .int .i64 (hoodErr h)]) ∧ Below w.heap.size w w' := by
  have K1 := Lib.hid (fun W => offsets_any h W)
  generalize (offs h).length = n at *
  generalize hoodErr h = er at *
  generalize ptCells (offs h) = cs at *
  go_enter Tryz.func76, Tryz.ntmps76
  go_wp2_with fail
  refine (K1.out _).mono ?_
  rintro e w1 ⟨v, rfl, ho, hb⟩
  obtain ⟨ad, cap, rfl⟩ := own_shape ho
  have hB1 := Lib.hid hb
  clear hb ho
  go_wp2
  go_ret2
  exact ⟨rfl, hB1.out⟩

theorem pts_lit {w : World} {l : List (Int × Int)} {cs : Array Value} {n : Nat} (h : cs = (ptCells l).toArray) (hn : n = l.length) (hl : l.length ≤ 8) :
    (w.alloc (.cells cs 111)).ownsRow w.heap.size 111 2 (.slice (some ⟨w.heap.size, 0, none⟩) n n) l.length (ptCells l) := by
  subst h hn
  have := World.ownsRow_lit (base := w.heap.size) (e := 111) (size := 2) w (ptCells l).toArray l.length (Nat.le_refl _) (by unfold maxLen; omega) (by simp [ptCells_len])
  simpa using this

end Go.Proofs.YtcbhbojplcddkaaGreatDoor
namespace Go.Proofs.YtcbhbojplcddkaaGreatDoor
open Go.RowKit Go.RowBits
set_option linter.unusedSimpArgs false
set_option linter.unusedVariables false

/-! ### A rule of births and stays -/
def ruleOk (h : Int) (born stay : Nat) : Prop := ∀ j, (offs h).length < j → j < 16 → born.testBit j = false ∧ stay.testBit j = false
noncomputable instance (h : Int) (born stay : Nat) : Decidable (ruleOk h born stay) := Classical.propDecidable _
noncomputable def lifeE (h : Int) (born stay : Nat) : Int := if h = 1 ∨ h = 2 ∨ h = 3 then (if ruleOk h born stay then 0 else 82) else 70

theorem or_small {a b n : Nat} (ha : a < 65536) (hb : b < 65536) : (a ||| b) / 2 ^ (n + 1) = 0 ↔ ∀ j, n < j → j < 16 → a.testBit j = false ∧ b.testBit j = false := by
  rw [Nat.div_eq_zero_iff_lt (Nat.two_pow_pos _)]
  constructor
  · intro h j hj _
    have : (a ||| b).testBit j = false := Nat.testBit_lt_two_pow (Nat.lt_of_lt_of_le h (Nat.pow_le_pow_right (by decide) (by omega)))
    rw [Nat.testBit_or] at this
    simpa using this
  · intro h
    apply lt_pow_of_bits
    intro j hj
    rw [Nat.testBit_or]
    by_cases h16 : j < 16
    · obtain ⟨h1, h2⟩ := h j (by omega) h16
      rw [h1, h2]; rfl
    · have e : ∀ x, x < 65536 → x.testBit j = false := fun x hx => Nat.testBit_lt_two_pow (Nat.lt_of_lt_of_le (show x < 2 ^ 16 by omega) (Nat.pow_le_pow_right (by decide) (by omega)))
      rw [e a ha, e b hb]; rfl

def BRel (v n : Nat) (w : World) (x i : Value) (wr : World) : Prop := ∃ k : Nat, k ≤ n ∧ i = .int .i64 (k : Int) ∧ x = .int .u16 ((v / 2 ^ k : Nat) : Int) ∧ wr = w
theorem half_again (v k : Nat) : v / 2 ^ (k + 1) = v / 2 ^ k / 2 := by rw [Nat.pow_succ, Nat.div_div_eq_div_mul]
set_option maxHeartbeats 1000000 in
theorem greatest67 (h : Int) (born stay : Nat) (w : World) : Calls Tryz.prog 64 #[.agg #[.int .u8 h, .int .u16 (born : Int), .int .u16 (stay : Int)]] w fun e w' =>
    e = .returned (.tuple #[.int .i64 (if h = 1 ∨ h = 2 ∨ h = 3 then ((offs h).length : Int) else 0), .int .i64 (if h = 1 ∨ h = 2 ∨ h = 3 then 0 else 70)]) ∧ Below w.heap.size w w' := by
  have K10 := fun W => size_any h W
  by_cases hh : h = 1 ∨ h = 2 ∨ h = 3
  · rw [hoodErr_good hh] at K10
    rw [if_pos hh, if_pos hh]
    have K1 := Lib.hid K10
    clear K10 hh
    generalize (offs h).length = n at *
    go_enter Tryz.func64, Tryz.ntmps64
    go_wp2_with fail
    refine (K1.out _).mono ?_
    rintro e w1 ⟨rfl, hb⟩
    have hB := Lib.hid (below_then (B := w.heap.size) (below_new _) hb (by simp))
    clear hb
    go_wp2
    go_ret2
    exact ⟨rfl, hB.out⟩
  · rw [hoodErr_bad hh] at K10
    rw [if_neg hh, if_neg hh]
    have K1 := Lib.hid K10
    clear K10 hh
    generalize (offs h).length = n at *
    go_enter Tryz.func64, Tryz.ntmps64
    go_wp2_with fail
    refine (K1.out _).mono ?_
    rintro e w1 ⟨rfl, hb⟩
    have hB := Lib.hid (below_then (B := w.heap.size) (below_new _) hb (by simp))
    clear hb
    go_wp2
    go_ret2
    exact ⟨rfl, hB.out⟩

set_option maxHeartbeats 1000000 in
theorem lifeCheck {h : Int} {born stay : Nat} (hb1 : born < 65536) (hs1 : stay < 65536) (w : World) : Calls Tryz.prog 36 #[.agg #[.int .u8 h, .int .u16 (born : Int), .int .u16 (stay : Int)]] w fun e w' =>
    e = .returned (.int .i64 (lifeE h born stay)) ∧ Below w.heap.size w w' := by
  have K10 := fun W => greatest67 h born stay W
  by_cases hh : h = 1 ∨ h = 2 ∨ h = 3
  · rw [if_pos hh, if_pos hh] at K10
    have hl := offs_len h
    have hE : lifeE h born stay = if (born ||| stay) / 2 ^ ((offs h).length + 1) = 0 then 0 else 82 := by
      unfold lifeE
      rw [if_pos hh]
      by_cases e : ruleOk h born stay
      · rw [if_pos e, if_pos ((or_small hb1 hs1).2 e)]
      · rw [if_neg e, if_neg (fun e' => e ((or_small hb1 hs1).1 e'))]
    rw [hE]
    have hor := u16_or_nat born stay hb1 hs1
    have K1 := Lib.hid K10
    clear K10 hh hE
    generalize (offs h).length = n at *
    by_cases hz : (born ||| stay) / 2 ^ (n + 1) = 0
    · rw [if_pos hz]
      have hz2 : ((born ||| stay : Nat) : Int) / 2 ^ (n + 1) = 0 := by exact_mod_cast hz
      clear hz
      go_enter Tryz.func36, Tryz.ntmps36
      go_wp2_with fail
      refine (K1.out _).mono ?_
      rintro e w1 ⟨rfl, hb⟩
      obtain ⟨hc1, hf1⟩ := bcell hb
      have hz1 : w.heap.size < w1.heap.size := by have := hb.size; simp at this; omega
      have hB := Lib.hid (below_then (B := w.heap.size) (below_new _) hb (by simp))
      clear hb
      go_wp2
      go_ret
      exact ⟨rfl, hB.out⟩
    · rw [if_neg hz]
      have hz2 : ¬ (((born ||| stay : Nat) : Int) / 2 ^ (n + 1) = 0) := by exact_mod_cast hz
      clear hz
      go_enter Tryz.func36, Tryz.ntmps36
      go_wp2_with fail
      refine (K1.out _).mono ?_
      rintro e w1 ⟨rfl, hb⟩
      obtain ⟨hc1, hf1⟩ := bcell hb
      have hz1 : w.heap.size < w1.heap.size := by have := hb.size; simp at this; omega
      have hB := Lib.hid (below_then (B := w.heap.size) (below_new _) hb (by simp))
      clear hb
      go_wp2
      go_ret
      exact ⟨rfl, hB.out⟩
  · rw [if_neg hh, if_neg hh] at K10
    have hE : lifeE h born stay = 70 := by unfold lifeE; rw [if_neg hh]
    rw [hE]
    have K1 := Lib.hid K10
    clear K10 hh hE
    go_enter Tryz.func36, Tryz.ntmps36
    go_wp2_with fail
    refine (K1.out _).mono ?_
    rintro e w1 ⟨rfl, hb⟩
    have hB := Lib.hid (below_then (B := w.heap.size) (below_new _) hb (by simp))
    clear hb
    go_wp2
    go_ret
    exact ⟨rfl, hB.out⟩
end Go.Proofs.YtcbhbojplcddkaaGreatDoor
namespace Go.Proofs.YtcbhbojplcddkaaGreatDoor
open Go.RowKit Go.RowBits
set_option linter.unusedSimpArgs false
set_option linter.unusedVariables false

/-! ### The nine rows that packed.line looks at -/
theorem hasW_lt {w : World} {v : Value} {l : List Nat} (h : HasW w v l) (hl : 0 < l.length) : ∀ g, v.ownBlock = some g → g < w.heap.size := by
  obtain ⟨ad, cap, rfl, hc⟩ := h
  obtain ⟨g, o, rfl, c1⟩ := hc 0 hl
  intro g' hg'
  have : g = g' := by simpa [Value.ownBlock] using hg'
  subst this
  exact World.block_lt_of_cell? w _ c1
/-- What a store into block b leaves of a row elsewhere. -/
theorem HasW.stored {w : World} {v : Value} {l : List Nat} {b o : Nat} (h : HasW w v l) (hne : ∀ g p, v = .slice (some ⟨g, p, none⟩) l.length (match v with | .slice _ _ c => c | _ => 0) → g ≠ b) (u : Value) : HasW (w.setCell ⟨b, o, none⟩ u) v l := by
  obtain ⟨ad, cap, rfl, hc⟩ := h
  refine ⟨ad, cap, rfl, fun j hj => ?_⟩
  obtain ⟨g, p, rfl, c1⟩ := hc j hj
  refine ⟨g, p, rfl, ?_⟩
  have hgb : g ≠ b := hne g p rfl
  rw [← c1]
  exact World.cell?_of_block (a := ⟨g, p + j, none⟩) (heap_setCell_other w ⟨b, o, none⟩ g u hgb)
/-- The block of a slice (of any offset). -/
def blkOf : Value → Option Nat
  | .slice (some a) _ _ => some a.block
  | _ => none
theorem HasW.store {w : World} {v : Value} {l : List Nat} {b o : Nat} (h : HasW w v l) (hne : blkOf v ≠ some b) (u : Value) : HasW (w.setCell ⟨b, o, none⟩ u) v l :=
  h.stored (fun g p e => by rw [e] at hne; intro e'; exact hne (by rw [e']; rfl)) u
theorem HasW.blk_lt {w : World} {v : Value} {l : List Nat} (h : HasW w v l) (hl : 0 < l.length) {b : Nat} (hb : w.heap.size ≤ b) : blkOf v ≠ some b := by
  obtain ⟨ad, cap, rfl, hc⟩ := h
  obtain ⟨g, o, rfl, c1⟩ := hc 0 hl
  intro e
  have : g = b := Option.some.inj e
  have := World.block_lt_of_cell? w _ c1
  simp at this
  omega

structure SeenR (w : World) (b2 b4 A : Nat) (lf : List Value) (R : Nat → List Nat) (cnt : Nat) (sv : Nat → Value) (wr : World) : Prop where
  life : ∀ j, j < 3 → wr.cell? ⟨b2, j, none⟩ = lf[j]?
  res0 : wr.cell? ⟨b4, 0, none⟩ = some (.int .i64 0)
  res1 : wr.cell? ⟨b4, 1, none⟩ = some (.slice none 0 0)
  resf : ∀ o, wr.frozen? ⟨b4, o, none⟩ = false
  seen : ∀ j, j < 9 → wr.cell? ⟨A, j, none⟩ = some (sv j)
  seenf : ∀ j, wr.frozen? ⟨A, j, none⟩ = false
  has : ∀ j, j < cnt → HasW wr (sv j) (shN (R (j / 3)) (j % 3))
  off : ∀ j, j < cnt → blkOf (sv j) ≠ some A
  hB : Below w.heap.size w wr
  s2 : w.heap.size ≤ b2 ∧ b2 < b4 ∧ b4 < A ∧ A < wr.heap.size
theorem SeenR.below {w wr w' : World} {b2 b4 A : Nat} {lf : List Value} {R : Nat → List Nat} {cnt : Nat} {sv : Nat → Value} (h : SeenR w b2 b4 A lf R cnt sv wr) (hb : Below wr.heap.size wr w') : SeenR w b2 b4 A lf R cnt sv w' := by
  obtain ⟨h1, h2, h3, h4⟩ := h.s2
  have e : ∀ b o, b < wr.heap.size → w'.cell? ⟨b, o, none⟩ = wr.cell? ⟨b, o, none⟩ := fun b o hb' => hb.cell (p := ⟨b, o, none⟩) hb'
  have f : ∀ b o, b < wr.heap.size → w'.frozen? ⟨b, o, none⟩ = wr.frozen? ⟨b, o, none⟩ := fun b o hb' => hb.frozen (p := ⟨b, o, none⟩) hb'
  refine ⟨fun j hj => by rw [e _ _ (by omega)]; exact h.life j hj, by rw [e _ _ (by omega)]; exact h.res0, by rw [e _ _ (by omega)]; exact h.res1, fun o => by rw [f _ _ (by omega)]; exact h.resf o,
    fun j hj => by rw [e _ _ (by omega)]; exact h.seen j hj, fun j => by rw [f _ _ (by omega)]; exact h.seenf j, fun j hj => (h.has j hj).kept hb, h.off, below_then h.hB hb h.hB.size, h1, h2, h3, by have := hb.size; omega⟩
theorem cell_other {w : World} {b b' o o' : Nat} {u : Value} (h : b' ≠ b) : (w.setCell ⟨b, o, none⟩ u).cell? ⟨b', o', none⟩ = w.cell? ⟨b', o', none⟩ :=
  World.cell?_of_block (a := ⟨b', o', none⟩) (heap_setCell_other w ⟨b, o, none⟩ b' u h)
theorem frozen_other {w : World} {b b' o o' : Nat} {u : Value} (h : b' ≠ b) : (w.setCell ⟨b, o, none⟩ u).frozen? ⟨b', o', none⟩ = w.frozen? ⟨b', o', none⟩ :=
  World.frozen?_of_block (a := ⟨b', o', none⟩) (heap_setCell_other w ⟨b, o, none⟩ b' u h)
theorem SeenR.other {w wr : World} {b2 b4 A b o : Nat} {lf : List Value} {R : Nat → List Nat} {cnt : Nat} {sv : Nat → Value} (h : SeenR w b2 b4 A lf R cnt sv wr) (hb : A < b) (hoff : ∀ j, j < cnt → blkOf (sv j) ≠ some b) (u : Value) :
    SeenR w b2 b4 A lf R cnt sv (wr.setCell ⟨b, o, none⟩ u) := by
  obtain ⟨h1, h2, h3, h4⟩ := h.s2
  refine ⟨fun j hj => by rw [cell_other (by omega)]; exact h.life j hj, by rw [cell_other (by omega)]; exact h.res0, by rw [cell_other (by omega)]; exact h.res1, fun o => by rw [frozen_other (by omega)]; exact h.resf o,
    fun j hj => by rw [cell_other (by omega)]; exact h.seen j hj, fun j => by rw [frozen_other (by omega)]; exact h.seenf j, fun j hj => (h.has j hj).store (hoff j hj) u, h.off, h.hB.setCell (by simp; omega) _, h1, h2, h3, by simp [World.setCell]; exact h4⟩
theorem SeenR.put {w wr : World} {b2 b4 A : Nat} {lf : List Value} {R : Nat → List Nat} {cnt : Nat} {sv : Nat → Value} {v : Value} (h : SeenR w b2 b4 A lf R cnt sv wr) (hc : cnt < 9) (hv : HasW wr v (shN (R (cnt / 3)) (cnt % 3))) (hoff : blkOf v ≠ some A) :
    SeenR w b2 b4 A lf R (cnt + 1) (fun j => if j = cnt then v else sv j) (wr.setCell ⟨A, cnt, none⟩ v) := by
  obtain ⟨h1, h2, h3, h4⟩ := h.s2
  have hcur := h.seen cnt hc
  refine ⟨fun j hj => by rw [cell_other (by omega)]; exact h.life j hj, by rw [cell_other (by omega)]; exact h.res0, by rw [cell_other (by omega)]; exact h.res1, fun o => by rw [frozen_other (by omega)]; exact h.resf o,
    fun j hj => ?_, fun j => ?_, fun j hj => ?_, fun j hj => ?_, h.hB.setCell (by simp; omega) _, h1, h2, h3, by simp [World.setCell]; exact h4⟩
  · by_cases e : j = cnt
    · subst e
      simp only [if_true]
      go_simp
    · simp only [if_neg e]
      rw [← h.seen j hj]
      go_simp
  · have := h.seenf j
    go_simp
  · by_cases e : j = cnt
    · subst e
      simp only [if_true]
      exact hv.store hoff v
    · simp only [if_neg e]
      exact (h.has j (by omega)).store (h.off j (by omega)) v
  · by_cases e : j = cnt
    · subst e
      simp only [if_true]
      exact hoff
    · simp only [if_neg e]
      exact h.off j (by omega)
end Go.Proofs.YtcbhbojplcddkaaGreatDoor
namespace Go.Proofs.YtcbhbojplcddkaaGreatDoor
open Go.RowKit Go.RowBits
set_option linter.unusedSimpArgs false
set_option linter.unusedVariables false

theorem half71 {a b : Nat} (ha : a < U) (hb : b < U) (w : World) : Calls Tryz.prog 51 #[.int .u64 (a : Int), .int .u64 (b : Int)] w fun e w' =>
    e = .returned (.tuple #[.int .u64 ((a ^^^ b : Nat) : Int), .int .u64 ((a &&& b : Nat) : Int)]) ∧ w' = w := by
  have h1 := u64_xor_nat a b ha hb
  have h2 := u64_and_nat a b ha hb
  go_enter Tryz.func51, Tryz.ntmps51
  go_wp2
  go_ret2
  exact ⟨rfl, rfl⟩

/-! ### What the loops behind keep -/
theorem HasW.stepg {W w' : World} {v : Value} {l : List Nat} {O : Nat} (h : HasW W v l) (hg : W.grownBy w' (some O)) (hne : blkOf v ≠ some O) : HasW w' v l := by
  obtain ⟨ad, cap, rfl, hc⟩ := h
  refine ⟨ad, cap, rfl, fun j hj => ?_⟩
  obtain ⟨g, o, rfl, c1⟩ := hc j hj
  refine ⟨g, o, rfl, ?_⟩
  have hl := World.block_lt_of_cell? W _ c1
  rw [← c1]
  exact World.cell?_of_block (a := ⟨g, o + j, none⟩) (hg.block g hl (fun e => hne (by rw [← e]; rfl)))
theorem grownBy_trans_new {w a b : World} {row row' : Option Nat} (h : w.grownBy a row) (k : a.grownBy b row') (hr : row' = row ∨ row' = none ∨ ∀ g, row' = some g → w.heap.size ≤ g) : w.grownBy b row := by
  refine ⟨k.os.trans h.os, k.tape.trans h.tape, k.output.trans h.output, Nat.le_trans h.size k.size, fun i hi hne => ?_⟩
  refine (k.block i (Nat.lt_of_lt_of_le hi h.size) ?_).trans (h.block i hi hne)
  intro e
  rcases hr with rfl | rfl | hr
  · exact hne e
  · cases e
  · have := hr i e.symm; omega
theorem grown_alloc {w a : World} {row : Option Nat} (h : w.grownBy a row) (o : Obj) : w.grownBy (a.alloc o) row :=
  ⟨h.os, h.tape, h.output, by simp; exact Nat.le_succ_of_le h.size, fun k hk hne => (Below.heap_alloc _ _ _ (Nat.lt_of_lt_of_le hk h.size)).trans (h.block k hk hne)⟩
theorem grown_drewN {w a : World} {row : Option Nat} (h : w.grownBy a row) (n : Nat) : w.grownBy (a.drewN n) row := ⟨h.os, h.tape, h.output, h.size, h.block⟩
theorem WBlk.drewN {w : World} {g : Nat} {ws : List Nat} (h : WBlk w g ws) (n : Nat) : WBlk (w.drewN n) g ws := h

section
variable (L : List (Int × Int)) (born stay : Nat) (a h b : List Nat)
/-- The words behind i whole ones, the i-th being x so far. -/
def outI (m i x : Nat) : List Nat := (List.range m).map fun j => if j < i then outWord L born stay a h b j else if j = i then x else 0
variable {L born stay a h b}
theorem outI_len (m i x : Nat) : (outI L born stay a h b m i x).length = m := by simp [outI]
theorem outI_get {m i x : Nat} (hi : i < m) : (outI L born stay a h b m i x).getD i 0 = x := by
  unfold outI
  rw [List.getD_eq_getElem?_getD, List.getElem?_map, List.getElem?_range hi, Option.map_some, Option.getD_some, if_neg (by omega), if_pos rfl]
theorem outI_set {m i x y : Nat} : (outI L born stay a h b m i x).set i y = outI L born stay a h b m i y := by
  apply List.ext_getElem
  · simp [outI]
  · intro j h1 h2
    simp only [outI, List.getElem_set, List.getElem_map, List.getElem_range]
    by_cases e : i = j
    · subst e; simp
    · rw [if_neg e]
      by_cases h : j < i
      · rw [if_pos h, if_pos h]
      · rw [if_neg h, if_neg h, if_neg (fun e' => e e'.symm), if_neg (fun e' => e e'.symm)]
theorem outI_zero (m : Nat) : outI L born stay a h b m 0 0 = List.replicate m 0 := by
  apply List.ext_getElem
  · simp [outI]
  · intro j h1 h2
    simp [outI]
theorem outI_next {m i x : Nat} (hx : x = outWord L born stay a h b i) : outI L born stay a h b m i x = outI L born stay a h b m (i + 1) 0 := by
  unfold outI
  apply List.map_congr_left
  intro j hj
  by_cases h1 : j < i
  · rw [if_pos h1, if_pos (by omega)]
  · rw [if_neg h1]
    by_cases h2 : j = i
    · subst h2
      rw [if_pos rfl, if_pos (by omega), hx]
    · rw [if_neg h2, if_neg (by omega)]
      split <;> rfl
theorem outI_all (m : Nat) : outI L born stay a h b m m 0 = (List.range m).map (outWord L born stay a h b) := by
  unfold outI
  apply List.map_congr_left
  intro j hj
  rw [if_pos (List.mem_range.1 hj)]
end
theorem outW_64 {L : List (Int × Int)} {born stay : Nat} {a h b : List Nat} (r : Rows64 a h b) (n : Nat) : W64 (outW L born stay a h b n) := fun j => by
  by_cases hj : j < (n + 63) / 64
  · rw [outW_get n hj]; exact outWord_lt r j
  · rw [List.getD_eq_getElem?_getD, List.getElem?_eq_none (by rw [outW_len]; omega), Option.getD_none]; show 0 < U; unfold U; omega
/-- The counter's word d. -/
def cw (s : Cnt) : Nat → Nat
  | 0 => s.a
  | 1 => s.b
  | 2 => s.c
  | _ => s.d
/-- The places that say k, as far as d digits tell. -/
def selD (s : Cnt) (k : Nat) : Nat → Nat
  | 0 => U - 1
  | d + 1 => selD s k d &&& sel1 k d (cw s d)
theorem selD_four (s : Cnt) (k : Nat) : selD s k 4 = sel s k := by
  show ((((U - 1) &&& sel1 k 0 (cw s 0)) &&& sel1 k 1 (cw s 1)) &&& sel1 k 2 (cw s 2)) &&& sel1 k 3 (cw s 3) = _
  unfold sel
  rfl
theorem selD_lt {s : Cnt} (k : Nat) : ∀ d, selD s k d < U
  | 0 => by show U - 1 < U; unfold U; omega
  | d + 1 => and_lt_U (selD_lt k d)
theorem cw_lt {s : Cnt} (h : s.ok) : ∀ d, cw s d < U
  | 0 => h.a
  | 1 => h.b
  | 2 => h.c
  | (_ + 3) => h.d
theorem idx128 (a b c d : Int) (W : World) : (Instr.index 125 (.agg #[.int .u64 a, .int .u64 b, .int .u64 c, .int .u64 d]) (.int .i64 0)).run Tryz.prog W = .ok (.int .u64 a) W ∧ (Instr.index 125 (.agg #[.int .u64 a, .int .u64 b, .int .u64 c, .int .u64 d]) (.int .i64 1)).run Tryz.prog W = .ok (.int .u64 b) W ∧
    (Instr.index 125 (.agg #[.int .u64 a, .int .u64 b, .int .u64 c, .int .u64 d]) (.int .i64 2)).run Tryz.prog W = .ok (.int .u64 c) W ∧ (Instr.index 125 (.agg #[.int .u64 a, .int .u64 b, .int .u64 c, .int .u64 d]) (.int .i64 3)).run Tryz.prog W = .ok (.int .u64 d) W :=
  ⟨by kernel_rfl, by kernel_rfl, by kernel_rfl, by kernel_rfl⟩
theorem idxC (s : Cnt) {d : Nat} (hd : d < 4) (W : World) : (Instr.index 125 (.agg #[.int .u64 (s.a : Int), .int .u64 (s.b : Int), .int .u64 (s.c : Int), .int .u64 (s.d : Int)]) (.int .i64 (d : Int))).run Tryz.prog W = .ok (.int .u64 (cw s d : Int)) W := by
  obtain ⟨h0, h1, h2, h3⟩ := idx128 s.a s.b s.c s.d W
  match d, hd with
  | 0, _ => exact h0
  | 1, _ => exact h1
  | 2, _ => exact h2
  | 3, _ => exact h3
/-- One bit of a number, as Go asks for it. -/
theorem bit_i64 {k d : Nat} (hk : k < 1000) : bits .and .i64 ((k : Int) / 2 ^ d) 1 = if k.testBit d then 1 else 0 := by
  have e : ((k : Int) / 2 ^ d) = ((k / 2 ^ d : Nat) : Int) := by simp
  have hle : k / 2 ^ d ≤ k := Nat.div_le_self _ _
  rw [e, Nat.testBit_eq_decide_div_mod_eq]
  generalize k / 2 ^ d = y at *
  have := bits_mask .i64 62 (by decide) (fun n h1 h2 => by rw [IntKind.wrap_i64]; omega) 1 (by decide) ((y : Nat) : Int) (by omega) (by omega)
  rw [show ((2 : Int) ^ 1 - 1) = 1 from by decide] at this
  rw [this]
  simp only [decide_eq_true_eq]
  split <;> omega
theorem bit_u16 {v d : Nat} (hv : v < 65536) : bits .and .u16 ((v : Int) / 2 ^ d) 1 = if v.testBit d then 1 else 0 := by
  have e : ((v : Int) / 2 ^ d) = ((v / 2 ^ d : Nat) : Int) := by simp
  have hle : v / 2 ^ d ≤ v := Nat.div_le_self _ _
  rw [e, show (1 : Int) = ((1 : Nat) : Int) from rfl, u16_and_nat _ _ (by omega) (by omega), Nat.and_one_is_mod, Nat.testBit_eq_decide_div_mod_eq]
  simp only [decide_eq_true_eq]
  split <;> omega
theorem compl_lt (c : Nat) : U - 1 - c < U := by unfold U; omega
theorem ones_lt : U - 1 < U := by unfold U; omega
theorem compl_xor {c : Nat} (hc : c < U) : (U - 1) ^^^ c = U - 1 - c := by
  apply word_ext (xor_lt_U ones_lt hc) (compl_lt c)
  intro i hi
  rw [Nat.testBit_xor, ones_bit hi, not_bit hc hi]
  simp
theorem max_u64 : IntKind.u64.max = ((U - 1 : Nat) : Int) := by kernel_rfl
theorem compl_u64 {c : Nat} (hc : c < U) : bits .xor .u64 (if IntKind.u64.signed = true then -1 else IntKind.u64.max) (c : Int) = ((U - 1 - c : Nat) : Int) := by
  rw [if_neg (by decide), max_u64, u64_xor_nat _ _ ones_lt hc, compl_xor hc]
theorem accK_next (born stay : Nat) (s : Cnt) (here k : Nat) : accK born stay s here (k + 1) =
    if stay.testBit k then (if born.testBit k then accK born stay s here k ||| (sel s k &&& (U - 1 - here)) else accK born stay s here k) ||| (sel s k &&& here)
    else (if born.testBit k then accK born stay s here k ||| (sel s k &&& (U - 1 - here)) else accK born stay s here k) := rfl
end Go.Proofs.YtcbhbojplcddkaaGreatDoor
