import Derived.Test.YtcbhbojplcddkaaGreatDoorZFdC
namespace Go.Proofs.YtcbhbojplcddkaaGreatDoor
open Go.RowKit Go.RowBits
set_option linter.unusedSimpArgs false
set_option linter.unusedVariables false

/-! ### Line and Get, over whatever a store answers -/
def LnRel (B : Nat) (W0 : World) (go w : Nat) (c : Nat → Nat) (i : Value) (wx : World) : Prop :=
  ∃ x : Nat, x ≤ w ∧ i = .int .i64 (x : Int) ∧ Below B W0 wx ∧ YBlk wx go (markY c (List.replicate w 0) x)
theorem hasB_yes {w h : Nat} {x y : Int} (hx : 0 ≤ x ∧ x < (w : Int)) (hy : 0 ≤ y ∧ y < (h : Int)) : hasB w h x y = true := by unfold hasB; exact decide_eq_true ⟨hx.1, hx.2, hy.1, hy.2⟩
set_option maxRecDepth 20000 in
set_option maxHeartbeats 2000000 in
theorem line28y {W : World} {fb w h s y : Nat} {pk : Bool} {u : Value} {c : Nat → Nat} (hf : FBlk W fb w h s pk 151 u) (hw : 1 ≤ w ∧ w ≤ 65536) (hy : y < h) (G : ∀ W' (x : Nat), Below W.heap.size W W' → x < w → Calls Tryz.prog 118 #[u, .int .i64 (x : Int), .int .i64 (y : Int)] W' fun e w' => e = .returned (.int .u8 ((c x : Nat) : Int)) ∧ Below W'.heap.size W' w') :
    Calls Tryz.prog 14 #[.pointer (some ⟨fb, 0, none⟩), .int .i64 (y : Int)] W fun e w' => ∃ g, e = .returned (.tuple #[.slice (some ⟨g, 0, none⟩) w w, .int .i64 0]) ∧ W.heap.size ≤ g ∧ YBlk w' g (markY c (List.replicate w 0) w) ∧ Below W.heap.size W w' := by
  have K1 := Lib.hid (none33 hf)
  have K2 := Lib.hid (fun W' => has53 w h s 0 (y : Int) W')
  rw [hasB_yes ⟨by omega, by omega⟩ ⟨by omega, by omega⟩] at K2
  have hmk := fun m => run_make_row' (P := Tryz.prog) 51 5 (.int .u8 0) 1 Tryz.underlying51 info5' rfl .i64 .i64 m
  have hmkn : ∀ W, (Instr.makeSlice 51 (.int .i64 (w : Int)) (.int .i64 (w : Int))).run Tryz.prog W = .ok (.slice (some ⟨W.heap.size, 0, none⟩) w w) (W.alloc (.cells (madeCells #[.int .u8 0] w) 5)) := fun W => hmk w (by omega) (by omega) W
  have G' := Lib.hid G
  have hf' := Lib.hid hf
  have hflt := hf.lt
  have c0 : W.cell? ⟨fb, 0, none⟩ = some (.int .i64 (w : Int)) := hf.cell rfl
  have c1 : W.cell? ⟨fb, 1, none⟩ = some (.int .i64 (h : Int)) := hf.cell rfl
  have c2 : W.cell? ⟨fb, 2, none⟩ = some (.int .i64 (s : Int)) := hf.cell rfl
  clear hmk G hf
  obtain ⟨n1, n2⟩ := hw
  go_enter Tryz.func14, Tryz.ntmps14
  go_wp2_with fail
  refine (K1.out).mono ?_
  rintro e w' ⟨rfl, hw'⟩
  subst w'
  go_wp2_with fail
  refine (K2.out _).mono ?_
  rintro e w1 ⟨rfl, hb⟩
  have hB1 := Lib.hid hb
  have hz1 : W.heap.size ≤ w1.heap.size := hb.size
  have d0 : w1.cell? ⟨fb, 0, none⟩ = some (.int .i64 (w : Int)) := cell_kept hb c0
  clear hb c0 c1 c2
  go_wp2
  have Y1 := YBlk.new w1 _ _ (made_bytes w)
  have hB2 : Below W.heap.size W (w1.alloc (.cells (madeCells #[.int .u8 0] w) 5)) := hB1.out.alloc hz1 _
  have Y1' := Lib.hid Y1
  have hB2' := Lib.hid hB2
  have hz2 : w1.heap.size < (w1.alloc (.cells (madeCells #[.int .u8 0] w) 5)).heap.size := by simp
  clear Y1 hB2 d0
  generalize w1.alloc (.cells (madeCells #[.int .u8 0] w) 5) = W2 at *
  go_loopw [25] (fun i wx => LnRel W.heap.size W w1.heap.size w c i wx) (fun i _ => w - (intOf i).toNat)
  case atStart => exact ⟨0, by omega, by go_num, hB2'.out, by rw [markY_zero]; exact Y1'.out⟩
  case round =>
    obtain ⟨x, hx, rfl, hB, hY⟩ := hrel
    have hB' := Lib.hid hB
    have hY' := Lib.hid hY
    have hYl := hY.lt
    have f4 : wr.cell? ⟨fb, 4, none⟩ = some (.iface 151 u) := cell_kept hB (hf'.out.cell rfl)
    clear hB hY
    by_cases hlt : x < w
    · have hms : Hid (markY c (List.replicate w 0) (x + 1) = (markY c (List.replicate w 0) x).set x (c x)) := markY_succ _ _ (k := x) (by simpa using hlt)
      have GG := Lib.hid (G'.out wr x hB'.out hlt)
      have hgl : w1.heap.size ≤ wr.heap.size := by omega
      go_wp2_with fail
      refine (GG.out).mono ?_
      rintro e w5 ⟨rfl, hb⟩
      have hY5 := hY'.out.kept hb
      have hB5 := Lib.hid (below_then hB'.out hb hB'.out.size)
      have y1 := hY5.cell (j := x) (by rw [markY_len]; simpa using hlt)
      have y2 := hY5.frozen x
      have hY5' := Lib.hid hY5
      clear hb hY5
      go_wp2
      exact ⟨⟨x + 1, by omega, by go_num, hB5.out.setCell (by simp; omega) _, by rw [hms.out]; exact hY5'.out.set (c x)⟩, by simp [intOf]; omega⟩
    · obtain rfl : w = x := by omega
      clear hlt
      go_wp2
      go_ret2
      exact ⟨_, rfl, hz1, hY'.out, hB'.out⟩
set_option maxRecDepth 20000 in
set_option maxHeartbeats 2000000 in
theorem line28w {W : World} {fb w h s y : Nat} {pk : Bool} {u : Value} {c : Nat → Nat} (hf : FBlk W fb w h s pk 147 u) (hw : 1 ≤ w ∧ w ≤ 65536) (hy : y < h) (G : ∀ W' (x : Nat), Below W.heap.size W W' → x < w → Calls Tryz.prog 114 #[u, .int .i64 (x : Int), .int .i64 (y : Int)] W' fun e w' => e = .returned (.int .u8 ((c x : Nat) : Int)) ∧ Below W'.heap.size W' w') :
    Calls Tryz.prog 14 #[.pointer (some ⟨fb, 0, none⟩), .int .i64 (y : Int)] W fun e w' => ∃ g, e = .returned (.tuple #[.slice (some ⟨g, 0, none⟩) w w, .int .i64 0]) ∧ W.heap.size ≤ g ∧ YBlk w' g (markY c (List.replicate w 0) w) ∧ Below W.heap.size W w' := by
  have K1 := Lib.hid (none33 hf)
  have K2 := Lib.hid (fun W' => has53 w h s 0 (y : Int) W')
  rw [hasB_yes ⟨by omega, by omega⟩ ⟨by omega, by omega⟩] at K2
  have hmk := fun m => run_make_row' (P := Tryz.prog) 51 5 (.int .u8 0) 1 Tryz.underlying51 info5' rfl .i64 .i64 m
  have hmkn : ∀ W, (Instr.makeSlice 51 (.int .i64 (w : Int)) (.int .i64 (w : Int))).run Tryz.prog W = .ok (.slice (some ⟨W.heap.size, 0, none⟩) w w) (W.alloc (.cells (madeCells #[.int .u8 0] w) 5)) := fun W => hmk w (by omega) (by omega) W
  have G' := Lib.hid G
  have hf' := Lib.hid hf
  have hflt := hf.lt
  have c0 : W.cell? ⟨fb, 0, none⟩ = some (.int .i64 (w : Int)) := hf.cell rfl
  have c1 : W.cell? ⟨fb, 1, none⟩ = some (.int .i64 (h : Int)) := hf.cell rfl
  have c2 : W.cell? ⟨fb, 2, none⟩ = some (.int .i64 (s : Int)) := hf.cell rfl
  clear hmk G hf
  obtain ⟨n1, n2⟩ := hw
  go_enter Tryz.func14, Tryz.ntmps14
  go_wp2_with fail
  refine (K1.out).mono ?_
  rintro e w' ⟨rfl, hw'⟩
  subst w'
  go_wp2_with fail
  refine (K2.out _).mono ?_
  rintro e w1 ⟨rfl, hb⟩
  have hB1 := Lib.hid hb
  have hz1 : W.heap.size ≤ w1.heap.size := hb.size
  have d0 : w1.cell? ⟨fb, 0, none⟩ = some (.int .i64 (w : Int)) := cell_kept hb c0
  clear hb c0 c1 c2
  go_wp2
  have Y1 := YBlk.new w1 _ _ (made_bytes w)
  have hB2 : Below W.heap.size W (w1.alloc (.cells (madeCells #[.int .u8 0] w) 5)) := hB1.out.alloc hz1 _
  have Y1' := Lib.hid Y1
  have hB2' := Lib.hid hB2
  have hz2 : w1.heap.size < (w1.alloc (.cells (madeCells #[.int .u8 0] w) 5)).heap.size := by simp
  clear Y1 hB2 d0
  generalize w1.alloc (.cells (madeCells #[.int .u8 0] w) 5) = W2 at *
  go_loopw [25] (fun i wx => LnRel W.heap.size W w1.heap.size w c i wx) (fun i _ => w - (intOf i).toNat)
  case atStart => exact ⟨0, by omega, by go_num, hB2'.out, by rw [markY_zero]; exact Y1'.out⟩
  case round =>
    obtain ⟨x, hx, rfl, hB, hY⟩ := hrel
    have hB' := Lib.hid hB
    have hY' := Lib.hid hY
    have hYl := hY.lt
    have f4 : wr.cell? ⟨fb, 4, none⟩ = some (.iface 147 u) := cell_kept hB (hf'.out.cell rfl)
    clear hB hY
    by_cases hlt : x < w
    · have hms : Hid (markY c (List.replicate w 0) (x + 1) = (markY c (List.replicate w 0) x).set x (c x)) := markY_succ _ _ (k := x) (by simpa using hlt)
      have GG := Lib.hid (G'.out wr x hB'.out hlt)
      have hgl : w1.heap.size ≤ wr.heap.size := by omega
      go_wp2_with fail
      refine (GG.out).mono ?_
      rintro e w5 ⟨rfl, hb⟩
      have hY5 := hY'.out.kept hb
      have hB5 := Lib.hid (below_then hB'.out hb hB'.out.size)
      have y1 := hY5.cell (j := x) (by rw [markY_len]; simpa using hlt)
      have y2 := hY5.frozen x
      have hY5' := Lib.hid hY5
      clear hb hY5
      go_wp2
      exact ⟨⟨x + 1, by omega, by go_num, hB5.out.setCell (by simp; omega) _, by rw [hms.out]; exact hY5'.out.set (c x)⟩, by simp [intOf]; omega⟩
    · obtain rfl : w = x := by omega
      clear hlt
      go_wp2
      go_ret2
      exact ⟨_, rfl, hz1, hY'.out, hB'.out⟩
end Go.Proofs.YtcbhbojplcddkaaGreatDoor
namespace Go.Proofs.YtcbhbojplcddkaaGreatDoor
open Go.RowKit Go.RowBits
set_option linter.unusedSimpArgs false
set_option linter.unusedVariables false

/-! ### Lay, over whatever a store keeps -/
def upd (c : Nat → Nat → Nat) (y x s : Nat) : Nat → Nat → Nat := fun y' x' => if y' = y ∧ x' = x then s else c y' x'
def updK (c : Nat → Nat → Nat) (y : Nat) (l : List Nat) (k : Nat) : Nat → Nat → Nat := fun y' x' => if y' = y ∧ x' < k then l.getD x' 0 else c y' x'
theorem updK_zero (c : Nat → Nat → Nat) (y : Nat) (l : List Nat) : updK c y l 0 = c := by
  funext y' x'
  unfold updK
  rw [if_neg (by omega)]
theorem updK_succ (c : Nat → Nat → Nat) (y : Nat) (l : List Nat) (k : Nat) : upd (updK c y l k) y k (l.getD k 0) = updK c y l (k + 1) := by
  funext y' x'
  unfold upd updK
  by_cases h1 : y' = y
  · by_cases h2 : x' = k
    · subst h1 h2
      rw [if_pos ⟨rfl, rfl⟩, if_pos ⟨rfl, by omega⟩]
    · rw [if_neg (by omega)]
      by_cases h3 : x' < k
      · rw [if_pos ⟨h1, h3⟩, if_pos ⟨h1, by omega⟩]
      · rw [if_neg (by omega), if_neg (by omega)]
  · rw [if_neg (by omega), if_neg (by omega), if_neg (by omega)]
theorem FBlk.grown {W W' : World} {fb w h s g : Nat} {pk : Bool} {T : TypeId} {u : Value} (hf : FBlk W fb w h s pk T u) (hg : W.grownBy W' (some g)) (hne : fb ≠ g) : FBlk W' fb w h s pk T u := (hg.block fb hf.lt (fun e => hne (by injection e))).trans hf
theorem YBlk.grown {W W' : World} {lb g : Nat} {l : List Nat} (hY : YBlk W lb l) (hg : W.grownBy W' (some g)) (hne : lb ≠ g) : YBlk W' lb l := (hg.block lb hY.lt (fun e => hne (by injection e))).trans hY
theorem grown_below {W W' W'' : World} {g : Nat} (h : W.grownBy W' (some g)) (hb : Below W'.heap.size W' W'') : W.grownBy W'' (some g) := h.trans ⟨hb.os, hb.tape, hb.output, hb.size, fun k hk _ => hb.block k hk⟩
def KnRel (W0 : World) (n : Nat) (i : Value) (wx : World) : Prop := ∃ k : Nat, k ≤ n ∧ i = .int .i64 (k : Int) ∧ Below W0.heap.size W0 wx
def LyRel (S : (Nat → Nat → Nat) → World → Prop) (W0 : World) (c : Nat → Nat → Nat) (y gy : Nat) (l : List Nat) (i : Value) (wx : World) : Prop :=
  ∃ k : Nat, k ≤ l.length ∧ i = .int .i64 (k : Int) ∧ W0.grownBy wx (some gy) ∧ S (updK c y l k) wx
set_option maxRecDepth 20000 in
set_option maxHeartbeats 4000000 in
theorem lay25y {W : World} {fb w h s y gy lb cap : Nat} {pk : Bool} {u : Value} {l : List Nat} {S : (Nat → Nat → Nat) → World → Prop} {c : Nat → Nat → Nat} (hf : FBlk W fb w h s pk 151 u) (hw : 1 ≤ w ∧ w ≤ 65536) (hs : s ≤ 256) (hy : y < h)
    (hk : ∀ c W' W'', S c W' → Below W'.heap.size W' W'' → S c W'')
    (hset : ∀ c W' (x v : Nat), S c W' → x < w → v < s → Calls Tryz.prog 119 #[u, .int .i64 (x : Int), .int .i64 (y : Int), .int .u8 (v : Int)] W' fun e w' => (∃ r, e = .returned r) ∧ S (upd c y x v) w' ∧ W'.grownBy w' (some gy))
    (hS : S c W) (hY : YBlk W lb l) (hl : l.length = w) (hlt : ∀ j, j < l.length → l.getD j 0 < s) (hne1 : fb ≠ gy) (hne2 : lb ≠ gy) :
    Calls Tryz.prog 11 #[.pointer (some ⟨fb, 0, none⟩), .int .i64 (y : Int), .slice (some ⟨lb, 0, none⟩) w cap] W fun e w' => e = .returned (.int .i64 0) ∧ S (updK c y l w) w' ∧ W.grownBy w' (some gy) := by
  have K1 := Lib.hid (none33 hf)
  have K2 := Lib.hid (fun W' => has53 w h s 0 (y : Int) W')
  rw [hasB_yes ⟨by omega, by omega⟩ ⟨by omega, by omega⟩] at K2
  have K3 : Hid (∀ (j : Nat) W', j < l.length → Calls Tryz.prog 35 #[shapeV w h s, .int .u8 ((l.getD j 0 : Nat) : Int)] W' fun e w' => e = .returned (.bool true) ∧ Below W'.heap.size W' w') := fun j W' hj => by
    have h1 := hlt j hj
    have := knows54 w h s (l.getD j 0) (by omega) W'
    rw [decide_eq_true (by omega)] at this
    exact this
  have hf' := Lib.hid hf
  have hY' := Lib.hid hY
  have hS' := Lib.hid hS
  have hk' := Lib.hid hk
  have hset' := Lib.hid hset
  have hlt' := Lib.hid hlt
  have c0 : W.cell? ⟨fb, 0, none⟩ = some (.int .i64 (w : Int)) := hf.cell rfl
  have c1 : W.cell? ⟨fb, 1, none⟩ = some (.int .i64 (h : Int)) := hf.cell rfl
  have c2 : W.cell? ⟨fb, 2, none⟩ = some (.int .i64 (s : Int)) := hf.cell rfl
  have hl' := Lib.hid hl
  clear hf hY hS hk hset hlt hl
  obtain ⟨n1, n2⟩ := hw
  go_enter Tryz.func11, Tryz.ntmps11
  go_wp2_with fail
  refine (K1.out).mono ?_
  rintro e w' ⟨rfl, hw'⟩
  subst w'
  go_wp2_with fail
  refine (K2.out _).mono ?_
  rintro e w1 ⟨rfl, hb⟩
  have hB1 := Lib.hid hb
  have d0 : w1.cell? ⟨fb, 0, none⟩ = some (.int .i64 (w : Int)) := cell_kept hb c0
  clear hb c0 c1 c2
  go_wp2
  clear d0
  go_loopw [33] (fun i wx => KnRel W w i wx) (fun i _ => w - (intOf i).toNat)
  case atStart => exact ⟨0, by omega, by go_num, hB1.out⟩
  case round =>
    obtain ⟨k, hkw, rfl, hB⟩ := hrel
    have hB' := Lib.hid hB
    by_cases hlk : k < w
    · have y1 := (hY'.out.kept hB).cell (j := k) (by rw [hl'.out]; exact hlk)
      have d0 : wr.cell? ⟨fb, 0, none⟩ = some (.int .i64 (w : Int)) := cell_kept hB (hf'.out.cell rfl)
      have d1 : wr.cell? ⟨fb, 1, none⟩ = some (.int .i64 (h : Int)) := cell_kept hB (hf'.out.cell rfl)
      have d2 : wr.cell? ⟨fb, 2, none⟩ = some (.int .i64 (s : Int)) := cell_kept hB (hf'.out.cell rfl)
      have KK := Lib.hid (K3.out k wr (by rw [hl'.out]; exact hlk))
      clear hB
      generalize l.getD k 0 = lv at *
      go_wp2_with fail
      refine (KK.out).mono ?_
      rintro e w5 ⟨rfl, hb⟩
      have hB5 := Lib.hid (below_then hB'.out hb hB'.out.size)
      clear hb
      go_wp2
      exact ⟨⟨k + 1, by omega, by go_num, hB5.out⟩, by simp [intOf]; omega⟩
    · obtain rfl : w = k := by omega
      clear hlk hB
      go_wp2
      have hG0 : Hid (W.grownBy wr (some gy)) := ⟨hB'.out.os, hB'.out.tape, hB'.out.output, hB'.out.size, fun k hk _ => hB'.out.block k hk⟩
      go_loopw [47] (fun i wx => LyRel S W c y gy l i wx) (fun i _ => w - (intOf i).toNat)
      case atStart => exact ⟨0, by omega, by go_num, hG0.out, by rw [updK_zero]; exact hk'.out _ _ _ hS'.out hB'.out⟩
      case round =>
        obtain ⟨k, hkl, rfl, hG, hSk⟩ := hrel
        have hG' := Lib.hid hG
        have hSk' := Lib.hid hSk
        rw [hl'.out] at hkl
        by_cases hlk : k < w
        · have y1 := (hY'.out.grown hG hne2).cell (j := k) (by rw [hl'.out]; exact hlk)
          have f4 : wr.cell? ⟨fb, 4, none⟩ = some (.iface 151 u) := (hf'.out.grown hG hne1).cell rfl
          have KK := Lib.hid (hset'.out _ wr k (l.getD k 0) hSk hlk (hlt'.out k (by rw [hl'.out]; exact hlk)))
          rw [updK_succ] at KK
          clear hG hSk
          generalize l.getD k 0 = lv at *
          go_wp2_with fail
          refine (KK.out).mono ?_
          rintro e w5 ⟨⟨rv, rfl⟩, hS5, hg5⟩
          have hS5' := Lib.hid hS5
          have hG5 := Lib.hid (hG'.out.trans hg5)
          clear hS5 hg5
          go_wp2
          exact ⟨⟨k + 1, by rw [hl'.out]; omega, by go_num, hG5.out, hS5'.out⟩, by simp [intOf]; omega⟩
        · obtain rfl : w = k := by omega
          clear hlk hG hSk
          go_wp2
          go_ret
          exact ⟨rfl, hSk'.out, hG'.out⟩
set_option maxRecDepth 20000 in
set_option maxHeartbeats 4000000 in
theorem lay25w {W : World} {fb w h s y gy lb cap : Nat} {pk : Bool} {u : Value} {l : List Nat} {S : (Nat → Nat → Nat) → World → Prop} {c : Nat → Nat → Nat} (hf : FBlk W fb w h s pk 147 u) (hw : 1 ≤ w ∧ w ≤ 65536) (hs : s ≤ 256) (hy : y < h)
    (hk : ∀ c W' W'', S c W' → Below W'.heap.size W' W'' → S c W'')
    (hset : ∀ c W' (x v : Nat), S c W' → x < w → v < s → Calls Tryz.prog 115 #[u, .int .i64 (x : Int), .int .i64 (y : Int), .int .u8 (v : Int)] W' fun e w' => (∃ r, e = .returned r) ∧ S (upd c y x v) w' ∧ W'.grownBy w' (some gy))
    (hS : S c W) (hY : YBlk W lb l) (hl : l.length = w) (hlt : ∀ j, j < l.length → l.getD j 0 < s) (hne1 : fb ≠ gy) (hne2 : lb ≠ gy) :
    Calls Tryz.prog 11 #[.pointer (some ⟨fb, 0, none⟩), .int .i64 (y : Int), .slice (some ⟨lb, 0, none⟩) w cap] W fun e w' => e = .returned (.int .i64 0) ∧ S (updK c y l w) w' ∧ W.grownBy w' (some gy) := by
  have K1 := Lib.hid (none33 hf)
  have K2 := Lib.hid (fun W' => has53 w h s 0 (y : Int) W')
  rw [hasB_yes ⟨by omega, by omega⟩ ⟨by omega, by omega⟩] at K2
  have K3 : Hid (∀ (j : Nat) W', j < l.length → Calls Tryz.prog 35 #[shapeV w h s, .int .u8 ((l.getD j 0 : Nat) : Int)] W' fun e w' => e = .returned (.bool true) ∧ Below W'.heap.size W' w') := fun j W' hj => by
    have h1 := hlt j hj
    have := knows54 w h s (l.getD j 0) (by omega) W'
    rw [decide_eq_true (by omega)] at this
    exact this
  have hf' := Lib.hid hf
  have hY' := Lib.hid hY
  have hS' := Lib.hid hS
  have hk' := Lib.hid hk
  have hset' := Lib.hid hset
  have hlt' := Lib.hid hlt
  have c0 : W.cell? ⟨fb, 0, none⟩ = some (.int .i64 (w : Int)) := hf.cell rfl
  have c1 : W.cell? ⟨fb, 1, none⟩ = some (.int .i64 (h : Int)) := hf.cell rfl
  have c2 : W.cell? ⟨fb, 2, none⟩ = some (.int .i64 (s : Int)) := hf.cell rfl
  have hl' := Lib.hid hl
  clear hf hY hS hk hset hlt hl
  obtain ⟨n1, n2⟩ := hw
  go_enter Tryz.func11, Tryz.ntmps11
  go_wp2_with fail
  refine (K1.out).mono ?_
  rintro e w' ⟨rfl, hw'⟩
  subst w'
  go_wp2_with fail
  refine (K2.out _).mono ?_
  rintro e w1 ⟨rfl, hb⟩
  have hB1 := Lib.hid hb
  have d0 : w1.cell? ⟨fb, 0, none⟩ = some (.int .i64 (w : Int)) := cell_kept hb c0
  clear hb c0 c1 c2
  go_wp2
  clear d0
  go_loopw [33] (fun i wx => KnRel W w i wx) (fun i _ => w - (intOf i).toNat)
  case atStart => exact ⟨0, by omega, by go_num, hB1.out⟩
  case round =>
    obtain ⟨k, hkw, rfl, hB⟩ := hrel
    have hB' := Lib.hid hB
    by_cases hlk : k < w
    · have y1 := (hY'.out.kept hB).cell (j := k) (by rw [hl'.out]; exact hlk)
      have d0 : wr.cell? ⟨fb, 0, none⟩ = some (.int .i64 (w : Int)) := cell_kept hB (hf'.out.cell rfl)
      have d1 : wr.cell? ⟨fb, 1, none⟩ = some (.int .i64 (h : Int)) := cell_kept hB (hf'.out.cell rfl)
      have d2 : wr.cell? ⟨fb, 2, none⟩ = some (.int .i64 (s : Int)) := cell_kept hB (hf'.out.cell rfl)
      have KK := Lib.hid (K3.out k wr (by rw [hl'.out]; exact hlk))
      clear hB
      generalize l.getD k 0 = lv at *
      go_wp2_with fail
      refine (KK.out).mono ?_
      rintro e w5 ⟨rfl, hb⟩
      have hB5 := Lib.hid (below_then hB'.out hb hB'.out.size)
      clear hb
      go_wp2
      exact ⟨⟨k + 1, by omega, by go_num, hB5.out⟩, by simp [intOf]; omega⟩
    · obtain rfl : w = k := by omega
      clear hlk hB
      go_wp2
      have hG0 : Hid (W.grownBy wr (some gy)) := ⟨hB'.out.os, hB'.out.tape, hB'.out.output, hB'.out.size, fun k hk _ => hB'.out.block k hk⟩
      go_loopw [47] (fun i wx => LyRel S W c y gy l i wx) (fun i _ => w - (intOf i).toNat)
      case atStart => exact ⟨0, by omega, by go_num, hG0.out, by rw [updK_zero]; exact hk'.out _ _ _ hS'.out hB'.out⟩
      case round =>
        obtain ⟨k, hkl, rfl, hG, hSk⟩ := hrel
        have hG' := Lib.hid hG
        have hSk' := Lib.hid hSk
        rw [hl'.out] at hkl
        by_cases hlk : k < w
        · have y1 := (hY'.out.grown hG hne2).cell (j := k) (by rw [hl'.out]; exact hlk)
          have f4 : wr.cell? ⟨fb, 4, none⟩ = some (.iface 147 u) := (hf'.out.grown hG hne1).cell rfl
          have KK := Lib.hid (hset'.out _ wr k (l.getD k 0) hSk hlk (hlt'.out k (by rw [hl'.out]; exact hlk)))
          rw [updK_succ] at KK
          clear hG hSk
          generalize l.getD k 0 = lv at *
          go_wp2_with fail
          refine (KK.out).mono ?_
          rintro e w5 ⟨⟨rv, rfl⟩, hS5, hg5⟩
          have hS5' := Lib.hid hS5
          have hG5 := Lib.hid (hG'.out.trans hg5)
          clear hS5 hg5
          go_wp2
          exact ⟨⟨k + 1, by rw [hl'.out]; omega, by go_num, hG5.out, hS5'.out⟩, by simp [intOf]; omega⟩
        · obtain rfl : w = k := by omega
          clear hlk hG hSk
          go_wp2
          go_ret
          exact ⟨rfl, hSk'.out, hG'.out⟩
end Go.Proofs.YtcbhbojplcddkaaGreatDoor
