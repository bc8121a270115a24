import Derived.Test.YtigghbehnnghnaaPkB
namespace Go.Proofs.Ytigghbehnnghnaa
open Go.RowKit Go.RowBits
set_option linter.unusedSimpArgs false
set_option linter.unusedVariables false

def downX (ws : List Nat) (j : Nat) : Nat := ws.getD j 0 / 2 + (ws.getD (j + 1) 0 % 2) * 9223372036854775808
def downK (ws : List Nat) (k : Nat) : List Nat := (List.range ws.length).map fun j => if j < k then downX ws j else ws.getD j 0
theorem downK_len (ws : List Nat) (k : Nat) : (downK ws k).length = ws.length := by simp [downK]
theorem downK_zero (ws : List Nat) : downK ws 0 = ws := by
  apply List.ext_getElem
  · simp [downK]
  · intro j h1 h2
    simp [downK, h2]
theorem downK_all (ws : List Nat) : downK ws ws.length = downW ws := by
  unfold downK downW
  apply List.map_congr_left
  intro j hj
  rw [if_pos (List.mem_range.1 hj)]
  rfl
theorem downK_get (ws : List Nat) {k j : Nat} (hj : j < ws.length) (hk : k ≤ j) : (downK ws k).getD j 0 = ws.getD j 0 := by
  unfold downK
  rw [List.getD_eq_getElem?_getD, List.getElem?_map, List.getElem?_range hj, Option.map_some, Option.getD_some, if_neg (by omega)]
theorem downK_succ (ws : List Nat) {k : Nat} (hk : k < ws.length) : downK ws (k + 1) = (downK ws k).set k (downX ws k) := by
  apply List.ext_getElem
  · simp [downK]
  · intro j h1 h2
    simp only [downK, List.getElem_map, List.getElem_range, List.getElem_set]
    by_cases e : k = j
    · subst e; simp
    · rw [if_neg e]
      by_cases h : j < k
      · rw [if_pos h, if_pos (by omega)]
      · rw [if_neg h, if_neg (by omega)]
theorem or_top {x y : Nat} (hx : x < U) (hy : y < U) : bits .or .u64 ((x : Int) / 2) (IntKind.u64.wrap ((y : Int) * 9223372036854775808)) = ((x / 2 + (y % 2) * 9223372036854775808 : Nat) : Int) := by
  have e1 : ((x : Int) / 2) = ((x / 2 : Nat) : Int) := by simp
  have e2 : IntKind.u64.wrap ((y : Int) * 9223372036854775808) = ((y % 2 * 9223372036854775808 : Nat) : Int) := by
    rw [IntKind.wrap_u64]; omega
  rw [e1, e2, u64_or_nat _ _ (by unfold U at hx; omega) (by omega)]
  rw [Nat.or_comm, nat_join 63 _ _ (by omega) (by unfold U at hx; omega), Nat.add_comm]
theorem grown_refl (w : World) (row : Option Nat) : w.grownBy w row := ⟨rfl, rfl, rfl, Nat.le_refl _, fun _ _ _ => rfl⟩
theorem grown_set {w a : World} {g j : Nat} (h : w.grownBy a (some g)) (u : Value) : w.grownBy (a.setCell ⟨g, j, none⟩ u) (some g) :=
  ⟨h.os, h.tape, h.output, by simp [World.setCell]; exact h.size, fun k hk hne => (heap_setCell_other a ⟨g, j, none⟩ k u (fun e => hne (by rw [e]))).trans (h.block k hk hne)⟩
theorem grown_drew {w a : World} {row : Option Nat} (h : w.grownBy a row) : w.grownBy a.drew row := ⟨h.os, h.tape, h.output, h.size, h.block⟩
theorem WBlk.drew {w : World} {g : Nat} {ws : List Nat} (h : WBlk w g ws) : WBlk w.drew g ws := h

def DR (w3 : World) (g : Nat) (ws : List Nat) (i : Value) (wr : World) : Prop := ∃ k : Nat, k ≤ ws.length ∧ i = .int .i64 (k : Int) ∧ WBlk wr g (downK ws k) ∧ w3.grownBy wr (some g)

theorem half_cast (x : Nat) : ((x : Int) / 2) = ((x / 2 : Nat) : Int) := by simp
theorem DR.step {w3 wr : World} {g : Nat} {ws : List Nat} {k x y : Nat} (hk : k + 1 < ws.length) (hw : W64 ws) (hx : ws.getD k 0 = x) (hy : ws.getD (k + 1) 0 = y) (hW : WBlk wr g (downK ws k)) (hG : w3.grownBy wr (some g)) :
    DR w3 g ws (.int .i64 ((k : Int) + 1)) ((wr.setCell ⟨g, k, none⟩ (.int .u64 ((x : Int) / 2))).setCell ⟨g, k, none⟩ (.int .u64 (bits .or .u64 ((x : Int) / 2) (IntKind.u64.wrap ((y : Int) * 9223372036854775808))))).drew := by
  have h1 : x < U := by rw [← hx]; exact hw k
  have h2 : y < U := by rw [← hy]; exact hw (k + 1)
  rw [or_top h1 h2, half_cast]
  have e : downX ws k = x / 2 + (y % 2) * 9223372036854775808 := by unfold downX; rw [hx, hy]
  refine ⟨k + 1, by omega, by go_num, ?_, grown_drew (grown_set (grown_set hG _) _)⟩
  rw [downK_succ ws (by omega), e]
  have := (hW.set (j := k) (x / 2)).set (j := k) (x / 2 + (y % 2) * 9223372036854775808)
  rw [List.set_set] at this
  exact this.drew
theorem DR.last {w3 wr : World} {g : Nat} {ws : List Nat} {k x : Nat} (hk : k < ws.length) (hl : ¬ k + 1 < ws.length) (hx : ws.getD k 0 = x) (hW : WBlk wr g (downK ws k)) (hG : w3.grownBy wr (some g)) :
    DR w3 g ws (.int .i64 ((k : Int) + 1)) (wr.setCell ⟨g, k, none⟩ (.int .u64 ((x : Int) / 2))) := by
  rw [half_cast]
  have e : downX ws k = x / 2 := by
    have h0 : ws.getD (k + 1) 0 = 0 := by rw [List.getD_eq_getElem?_getD, List.getElem?_eq_none (by omega), Option.getD_none]
    unfold downX
    rw [hx, h0]
    omega
  refine ⟨k + 1, by omega, by go_num, ?_, grown_set hG _⟩
  rw [downK_succ ws hk, e]
  exact hW.set (j := k) (x / 2)

set_option maxRecDepth 20000 in
set_option maxHeartbeats 4000000 in
theorem down_any {n : Nat} {v : Value} {ws : List Nat} {w : World} (hn : n ≤ 65538) (h0 : 0 < n) (hg : RowGood n ws) (h : HasW w v ws) :
    Calls Try.prog 69 #[.agg #[.int .i64 (n : Int), v], .bool false] w fun e w' => ∃ g b, e = .returned (.tuple #[.agg #[.int .i64 (n : Int), .slice (some ⟨g, 0, none⟩) ws.length ws.length], .bool b, .int .i64 0]) ∧
    w.heap.size ≤ g ∧ WBlk w' g (downW ws) ∧ Below w.heap.size w w' := by
  have hl := hg.len
  have hL0 : 0 < ws.length := by omega
  have K1 : Hid (∀ W, HasW W v ws → Calls Try.prog 46 #[.agg #[.int .i64 (n : Int), v]] W fun e w' => e = .returned (.bool true) ∧ Below W.heap.size W w') := fun W hW => by
    have := valid_any (n : Int) hW hg.w64
    rw [rowOk_yes (N := (n : Int)) ⟨by omega, by omega, by simpa using hg⟩] at this
    exact this
  have K2 : Hid (∀ W, HasW W v ws → Calls Try.prog 89 #[.agg #[.int .i64 (n : Int), v]] W fun e w' => ∃ g, e = .returned (.agg #[.int .i64 (n : Int), .slice (some ⟨g, 0, none⟩) ws.length ws.length]) ∧
    W.heap.size ≤ g ∧ WBlk w' g ws ∧ Below W.heap.size W w') := fun W hW => clone_any hn hl hW
  have h' := Lib.hid h
  obtain ⟨ad, cap, rfl, hc⟩ := h
  obtain ⟨g0, o0, rfl, hx0⟩ := hc 0 hL0
  have hw := Lib.hid hg.w64
  have hda := Lib.hid (downK_all ws)
  have hg0 : g0 < w.heap.size := World.block_lt_of_cell? w _ hx0
  have hx0' : w.cell? ⟨g0, o0, none⟩ = some (.int .u64 ((ws.getD 0 0 : Nat) : Int)) := by simpa using hx0
  have hL1 : ws.length ≤ 1025 := by omega
  generalize hL : ws.length = L at *
  have hL' := Lib.hid hL
  clear hc hx0 hl hL
  generalize ws.getD 0 0 = X0 at *
  go_enter Try.func69, Try.ntmps69
  go_wp2_with fail
  refine (K1.out _ ((h'.out.kept (below_new _)).kept (below_new _))).mono ?_
  rintro e w1 ⟨rfl, hb⟩
  obtain ⟨hc1, hf1⟩ := bcell hb
  have hz1 : w.heap.size + 2 ≤ w1.heap.size := by have := hb.size; simp at this; omega
  have hz2 : w.heap.size < w1.heap.size := by omega
  have hz3 : w.heap.size + 1 < w1.heap.size := by omega
  have hz4 : g0 < w1.heap.size := by omega
  have hh1 := Lib.hid (((h'.out.kept (below_new (.cells #[.int .i64 (n : Int), .slice (some ⟨g0, o0, none⟩) L cap] 27))).kept (below_new (.cells #[.int .i64 0, .slice none 0 0] 27))).kept hb)
  have hB1 := Lib.hid (below_then (B := w.heap.size) (Below.alloc (below_new (w := w) (.cells #[.int .i64 (n : Int), .slice (some ⟨g0, o0, none⟩) L cap] 27)) (by simp) (.cells #[.int .i64 0, .slice none 0 0] 27)) hb (by simp; omega))
  have hx1 : w1.cell? ⟨g0, o0, none⟩ = some (.int .u64 (X0 : Int)) := by
    rw [hc1 g0 o0 (by simp; omega)]
    go_simp
  clear hb
  go_wp2_with fail
  refine (K2.out _ hh1.out).mono ?_
  rintro e w2 ⟨g, rfl, hgl, hblk, hb⟩
  obtain ⟨hc2, hf2⟩ := bcell hb
  have hz5 : w1.heap.size ≤ w2.heap.size := hb.size
  have hz6 : w.heap.size < w2.heap.size := by omega
  have hz7 : w.heap.size + 1 < w2.heap.size := by omega
  have hz8 := hblk.lt
  have hB2 := Lib.hid (below_then hB1.out hb (by omega))
  have hblk' := Lib.hid hblk
  clear hb hblk
  go_wp2
  go_loopw [30] (fun i wr => DR (w2.alloc (.cells #[.int .i64 (n : Int), .slice (some ⟨g, 0, none⟩) L L] 27)) g ws i wr) (fun i _ => L - (intOf i).toNat)
  case atStart => exact ⟨0, by omega, by go_num, by rw [downK_zero]; exact hblk'.out.kept (below_new _), grown_refl _ _⟩
  case round =>
    obtain ⟨k, hk, rfl, hW, hG⟩ := hrel
    rw [hL'.out] at hk
    have hW' := Lib.hid hW
    have hG' := Lib.hid hG
    have hzr : w2.heap.size < wr.heap.size := by have := hG.size; simp at this; omega
    have cc0 : wr.cell? ⟨w2.heap.size, 0, none⟩ = some (.int .i64 (n : Int)) := hG.cell (by go_simp) (fun e => by have : w2.heap.size = g := Option.some.inj e; omega)
    have cc1 : wr.cell? ⟨w2.heap.size, 1, none⟩ = some (.slice (some ⟨g, 0, none⟩) L L) := hG.cell (by go_simp) (fun e => by have : w2.heap.size = g := Option.some.inj e; omega)
    clear hW hG
    by_cases hlt : k < L
    · have d1 : wr.cell? ⟨g, k, none⟩ = some (.int .u64 ((ws.getD k 0 : Nat) : Int)) := by
        rw [hW'.out.cell (by rw [downK_len, hL'.out]; exact hlt), downK_get ws (by rw [hL'.out]; exact hlt) (Nat.le_refl _)]
      have f1 := hW'.out.frozen k
      have f2 := hW'.out.frozen (k + 1)
      by_cases hlast : k + 1 < L
      · have d2 : wr.cell? ⟨g, k + 1, none⟩ = some (.int .u64 ((ws.getD (k + 1) 0 : Nat) : Int)) := by
          rw [hW'.out.cell (by rw [downK_len, hL'.out]; exact hlast), downK_get ws (by rw [hL'.out]; exact hlast) (by omega)]
        obtain ⟨x, hx⟩ : ∃ x, ws.getD k 0 = x := ⟨_, rfl⟩
        obtain ⟨y, hy⟩ : ∃ y, ws.getD (k + 1) 0 = y := ⟨_, rfl⟩
        rw [hx] at d1
        rw [hy] at d2
        have hx' := Lib.hid hx
        have hy' := Lib.hid hy
        clear hx hy
        have R := Lib.hid (DR.step (by rw [hL'.out]; exact hlast) hw.out hx'.out hy'.out hW'.out hG'.out)
        go_wp2
        go_region
        go_wp2
        exact ⟨R.out, by simp [intOf]; omega⟩
      · obtain ⟨x, hx⟩ : ∃ x, ws.getD k 0 = x := ⟨_, rfl⟩
        rw [hx] at d1
        have hx' := Lib.hid hx
        clear hx
        have R := Lib.hid (DR.last (by rw [hL'.out]; exact hlt) (by rw [hL'.out]; exact hlast) hx'.out hW'.out hG'.out)
        go_wp2
        exact ⟨R.out, by simp [intOf]; omega⟩
    · obtain rfl : k = L := by omega
      clear hlt
      have hcr : ∀ b o, b < w2.heap.size → b ≠ g → wr.cell? ⟨b, o, none⟩ = w2.cell? ⟨b, o, none⟩ := fun b o hb hne => by
        have h1 := World.cell?_of_block (w := w2.alloc (.cells #[.int .i64 (n : Int), .slice (some ⟨g, 0, none⟩) k k] 27)) (w' := wr) (a := ⟨b, o, none⟩) (hG'.out.block b (by simp; omega) (fun e => hne (Option.some.inj e)))
        rw [h1]
        exact (below_new _).cell (p := ⟨b, o, none⟩) hb
      have hfr : ∀ b o, b < w2.heap.size → b ≠ g → wr.frozen? ⟨b, o, none⟩ = w2.frozen? ⟨b, o, none⟩ := fun b o hb hne => by
        have h1 := World.frozen?_of_block (w := w2.alloc (.cells #[.int .i64 (n : Int), .slice (some ⟨g, 0, none⟩) k k] 27)) (w' := wr) (a := ⟨b, o, none⟩) (hG'.out.block b (by simp; omega) (fun e => hne (Option.some.inj e)))
        rw [h1]
        exact (below_new _).frozen (p := ⟨b, o, none⟩) hb
      have hng : w.heap.size + 1 ≠ g := by omega
      have hfin : Below w.heap.size w wr := (hB2.out.alloc (by omega) _).grown hG'.out (by simp; omega) (fun q e => by cases e; omega)
      have hfin' := Lib.hid hfin
      have hz9 : w.heap.size + 1 < wr.heap.size := by omega
      clear hfin
      go_wp2
      try simp only [Exit.inBlock, Exit.then]
      refine bodyPost_ret (v := .tuple #[.agg #[.int .i64 (n : Int), .slice (some ⟨g, 0, none⟩) k k], .bool (bits .and .u64 (X0 : Int) 1 == 1), .int .i64 0]) ?_ rfl ⟨g, _, rfl, by omega, ?_, ?_⟩
      · rw [results_cell3 rfl]
        go_simp
      · rw [← hda.out]
        exact WBlk.setOther (WBlk.setOther hW'.out (fun e => hng e.symm) _) (fun e => hng e.symm) _
      · exact (hfin'.out.setCell (by simp) _).setCell (by simp) _
end Go.Proofs.Ytigghbehnnghnaa
