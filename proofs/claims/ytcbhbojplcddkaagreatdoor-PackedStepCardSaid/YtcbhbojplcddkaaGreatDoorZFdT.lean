import Derived.Test.YtcbhbojplcddkaaGreatDoorZFdS
namespace Go.Proofs.YtcbhbojplcddkaaGreatDoor
open Go.RowKit Go.RowBits Go.Shelf
set_option linter.unusedSimpArgs false
set_option linter.unusedVariables false
attribute [local go_sem] Oper.semAt_some

/-! ### living, Cells: what they hand back -/
section
variable {B E : Nat} {W W' : World} {fb w h s : Nat} {pk : Bool} {c : Nat → Nat → Nat}
theorem abides_below {β : Type} {B : Nat} {J : β → World → Prop} (h : AbidesFrom B J) {x : β} {W W' : World} (hj : J x W) (hb : Below W.heap.size W W') : J x W' :=
  h x W W' none hj ⟨hb.os, hb.tape, hb.output, hb.size, fun k hk _ => hb.block k hk⟩ (fun r e => by cases e)
theorem Fld.stops (f : Fld B E W fb w h s pk c) {n bx D B1 E1 : Nat} (hn : 1 ≤ n) (hbx : W.cell? ⟨bx, 0, none⟩ = some (.pointer (some ⟨fb, 0, none⟩))) (hED : E ≤ D) (hbD : bx < D) (hd : E ≤ B1 ∨ E1 ≤ B) (hdx : bx < B1 ∨ E1 ≤ bx) :
    SeqStopsK Fence.wide n Tryz.prog 66 #[.pointer (some ⟨bx, 0, none⟩)] (encPt (w := w) (h := h) (c := c)) (KpO D B1 E1) (AllCome w h c) (fun _ => True) (w * h) W := fun l J Jx W1 hW1 hJ _ hY h0 => by
  have hbx1 : W1.cell? ⟨bx, 0, none⟩ = some (.pointer (some ⟨fb, 0, none⟩)) := cell_kept hW1 hbx
  have hxk : ∀ A C : World, A.cell? ⟨bx, 0, none⟩ = some (.pointer (some ⟨fb, 0, none⟩)) → KpO D B1 E1 A C → C.cell? ⟨bx, 0, none⟩ = some (.pointer (some ⟨fb, 0, none⟩)) := fun A C ha hk => by
    have := hk.block bx hbD hdx
    unfold World.cell? at *
    simp only at *
    rw [this]
    exact ha
  rcases (f.kept hW1).keeps with ⟨h1, u, gs, h2, h3⟩ | ⟨h1, h00, u, gs, h2, h3⟩
  · refine living64y n hn l bx fb s pk u (fun W => W.cell? ⟨bx, 0, none⟩ = some (.pointer (some ⟨fb, 0, none⟩)) ∧ FBlk W fb w h s pk 151 u ∧ KeepY B E w h u gs c W) (KpO D B1 E1) J Jx f.side.1.2 f.side.2.1.2 hY (fun A q => ⟨q.1, q.2.1⟩) (fun A x y q hx hy => q.2.2.get hx hy)
      (fun A C q hb => ⟨cell_kept hb q.1, q.2.1.kept hb, q.2.2.kept hb⟩) (fun A C q hk => ⟨hxk A C q.1 hk, ?_, ?_⟩) (fun pre A C q hb => abides_below hJ q hb) W1 h0 ⟨hbx1, h2, h3⟩
    · exact (hk.block fb (by have := f.lies; omega) (by have := f.lies; omega)).trans q.2.1
    · exact q.2.2.same fun g q1 q2 q3 => hk.block g (by omega) (by omega)
  · refine living64w n hn l bx fb s pk u (fun W => W.cell? ⟨bx, 0, none⟩ = some (.pointer (some ⟨fb, 0, none⟩)) ∧ FBlk W fb w h s pk 147 u ∧ KeepW B E w h u gs c W) (KpO D B1 E1) J Jx f.side.1.2 f.side.2.1.2 hY (fun A q => ⟨q.1, q.2.1⟩) (fun A x y q hx hy => q.2.2.get f.side.1.2 f.side.2.1.2 hx hy)
      (fun A C q hb => ⟨cell_kept hb q.1, q.2.1.kept hb, q.2.2.kept hb⟩) (fun A C q hk => ⟨hxk A C q.1 hk, ?_, ?_⟩) (fun pre A C q hb => abides_below hJ q hb) W1 h0 ⟨hbx1, h2, h3⟩
    · exact (hk.block fb (by have := f.lies; omega) (by have := f.lies; omega)).trans q.2.1
    · exact q.2.2.same fun g q1 q2 q3 => hk.block g (by omega) (by omega)
set_option maxHeartbeats 1000000 in
theorem living55 (p : Option Addr) (W : World) : Calls Tryz.prog 38 #[.pointer p] W fun e w' => e = .returned (.func (.func 66) #[] #[.pointer (some ⟨W.heap.size, 0, none⟩)]) ∧ w' = W.alloc (.cells #[.pointer p] 32) := by
  go_enter Tryz.func38, Tryz.ntmps38
  go_wp2
  go_ret
  exact ⟨rfl, rfl⟩
def CellsPost (W : World) (w h s : Nat) (pk : Bool) (c : Nat → Nat → Nat) (e : Ending) (w' : World) : Prop :=
  ∃ fb' E' bx, e = .returned (.func (.func 66) #[] #[.pointer (some ⟨bx, 0, none⟩)]) ∧ Fld W.heap.size E' w' fb' w h s pk c ∧ w'.cell? ⟨bx, 0, none⟩ = some (.pointer (some ⟨fb', 0, none⟩)) ∧ W.heap.size ≤ bx ∧ Below W.heap.size W w'
set_option maxHeartbeats 1000000 in
theorem Fld.cells (f : Fld B E W fb w h s pk c) : Calls Tryz.prog 44 #[.pointer (some ⟨fb, 0, none⟩)] W (CellsPost W w h s pk c) := by
  have K := Lib.hid f.clone
  clear f
  go_enter Tryz.func44, Tryz.ntmps44
  go_wp2_with fail
  refine (K.out).mono ?_
  rintro e w1 ⟨fb', rfl, f1, hb⟩
  have f1' := Lib.hid f1
  have hb' := Lib.hid hb
  clear f1 hb K
  go_wp2_with fail
  refine (living55 _ w1).mono ?_
  rintro e w2 ⟨rfl, hw2⟩
  have hb2 : Hid (Below w1.heap.size w1 w2) := by rw [hw2]; exact below_new _
  have hc2 : Hid (w2.cell? ⟨w1.heap.size, 0, none⟩ = some (.pointer (some ⟨fb', 0, none⟩))) := by rw [hw2]; show _ = _; simp
  clear hw2
  go_wp2
  go_ret
  exact ⟨fb', _, w1.heap.size, rfl, f1'.out.kept hb2.out, hc2.out, hb'.out.size, below_then hb'.out hb2.out hb'.out.size⟩
end
end Go.Proofs.YtcbhbojplcddkaaGreatDoor
namespace Go.Proofs.YtcbhbojplcddkaaGreatDoor
open Go.RowKit Go.RowBits Go.Shelf
set_option linter.unusedSimpArgs false
set_option linter.unusedVariables false
attribute [local go_sem] Oper.semAt_some

/-! ### Pack -/
def PackPost (B E : Nat) (W : World) (fb w h : Nat) (c : Nat → Nat → Nat) (e : Ending) (w' : World) : Prop :=
  ∃ E', e = .returned (.int .i64 0) ∧ Fld B E' w' fb w h 2 true c ∧ E ≤ E' ∧ Only B E W w'
section
variable {B E : Nat} {W W' : World} {fb w h : Nat} {c : Nat → Nat → Nat}
def fillP (c : Nat → Nat → Nat) (pre : List (LivePt w h c)) : Nat → Nat → Nat := fun y x => if (y, x) ∈ pre.map (·.1) then c y x else 0
theorem mem_rowL (c : Nat → Nat → Nat) (y a b : Nat) (x : Nat) : (a, b) ∈ rowL c y x ↔ a = y ∧ b < x ∧ c a b ≠ 0 := by
  unfold rowL
  simp only [List.mem_map, List.mem_filter, List.mem_range, decide_eq_true_eq, Prod.mk.injEq]
  constructor
  · rintro ⟨q, ⟨h1, h2⟩, rfl, rfl⟩
    exact ⟨rfl, h1, h2⟩
  · rintro ⟨rfl, h1, h2⟩
    exact ⟨b, ⟨h1, h2⟩, rfl, rfl⟩
theorem mem_rowsL (c : Nat → Nat → Nat) (w a b : Nat) (h : Nat) : (a, b) ∈ rowsL c w h ↔ a < h ∧ b < w ∧ c a b ≠ 0 := by
  unfold rowsL
  simp only [List.mem_flatMap, List.mem_range, mem_rowL]
  constructor
  · rintro ⟨y, h1, rfl, h2, h3⟩
    exact ⟨h1, h2, h3⟩
  · rintro ⟨h1, h2, h3⟩
    exact ⟨a, h1, rfl, h2, h3⟩
def PkI (W0 : World) (D E1 w h : Nat) (u : Value) (gs : Nat → Nat) (c : Nat → Nat → Nat) (pre : List (LivePt w h c)) (W : World) : Prop :=
  KeepW W0.heap.size E1 w h u gs (fillP c pre) W ∧ Boxed W E1 93 (.iface 147 u) ∧ Below W0.heap.size W0 W ∧ D ≤ W.heap.size
def PkAx (fb b5 bx w h : Nat) (u : Value) (c : Nat → Nat → Nat) (p : LivePt w h c) (a : Act) (W : World) : Prop := ∃ Bx, W.heap[Bx]? = some (.cells #[.int .i64 (p.1.2 : Int), .int .i64 (p.1.1 : Int)] 111 (0, 0)) ∧ a = { tmps := #[.pointer (some ⟨fb, 0, none⟩), .bool true, undef, undef, .int .i64 0, .pointer (some ⟨b5, 0, none⟩), .pointer (some ⟨Bx, 0, none⟩), .int .u8 ((c p.1.1 p.1.2 : Nat) : Int), .bool false, .pointer (some ⟨fb, 0, none⟩), .bool false, .bool false, .bool true, .bool true, .pointer (some ⟨fb, 0, none⟩), .pointer (some ⟨fb, 0, none⟩), .pointer (some ⟨fb, 0, none⟩), .pointer (some ⟨fb, 2, none⟩), .int .i64 2, .bool false, .bool false, .bool false, .bool true, .pointer (some ⟨fb, 0, none⟩), .pointer (some ⟨fb, 0, none⟩), .pointer (some ⟨fb, 3, none⟩), .bool false, .bool false, .pointer (some ⟨fb, 0, none⟩), .pointer (some ⟨fb, 0, none⟩), .pointer (some ⟨fb, 0, none⟩), .agg #[.int .i64 (w : Int), .int .i64 (h : Int), .int .i64 2], .bool true, .iface 147 u, .pointer (some ⟨fb, 0, none⟩), .func (.func 66) #[] #[.pointer (some ⟨bx, 0, none⟩)], .agg #[.int .i64 (p.1.2 : Int), .int .i64 (p.1.1 : Int)], .int .u8 ((c p.1.1 p.1.2 : Nat) : Int), undef, undef, undef, undef, undef, undef, undef, undef, undef, undef, undef, undef, undef, undef, undef], defers := [] }
set_option maxRecDepth 100000 in
set_option maxHeartbeats 4000000 in
theorem pack21f (f : Fld B E W fb w h 2 false c) : Calls Tryz.prog 22 #[.pointer (some ⟨fb, 0, none⟩), .bool true] W (PackPost B E W fb w h c) := by
  obtain ⟨u0, gs0, hF, hS⟩ : ∃ u gs, FBlk W fb w h 2 false 151 u ∧ KeepY B E w h u gs c W := by
    rcases f.keeps with ⟨_, u, gs, h1, h2⟩ | ⟨h1, _⟩
    · exact ⟨u, gs, h1, h2⟩
    · cases h1
  have f' := Lib.hid f
  have K1 := Lib.hid (none33 hF)
  have K2 := Lib.hid (fun W' => fresh41w (s := 2) f.side.1 f.side.2.1 W')
  have c0 : W.cell? ⟨fb, 0, none⟩ = some (.int .i64 (w : Int)) := hF.cell rfl
  have c1 : W.cell? ⟨fb, 1, none⟩ = some (.int .i64 (h : Int)) := hF.cell rfl
  have c2 : W.cell? ⟨fb, 2, none⟩ = some (.int .i64 2) := hF.cell rfl
  have c3 : W.cell? ⟨fb, 3, none⟩ = some (.bool false) := hF.cell rfl
  have hF' := Lib.hid hF
  have hS' := Lib.hid hS
  clear f hF hS
  refine (callsIn_wide (n := 8)).1 ?_
  refine callsIn_of_wp_marks Tryz.func22 rfl trivial ?_ rfl
  simp only [Tryz.ntmps22, List.size_toArray, List.length_cons, List.length_nil, Nat.reduceAdd, Nat.reduceSub, Array.replicate_succ, Array.replicate_zero, List.push_toArray, List.append_toArray, List.nil_append, List.cons_append]
  gi_wp2_with fail
  refine ⟨trivial, callsIn_wide.2 ((K1.out).mono ?_)⟩
  rintro e w' ⟨rfl, hw'⟩
  subst w'
  gi_wp2_with fail
  refine ⟨trivial, callsIn_wide.2 ((K2.out _).mono ?_)⟩
  rintro e w1 ⟨gr, cap, gs, rfl, hst, hb1⟩
  have hst' := Lib.hid hst
  have hb1' := Lib.hid hb1
  clear c0 c1 c2 c3 K2 hst hb1
  have hz1 : W.heap.size ≤ w1.heap.size := hb1'.out.size
  have hfl : fb < W.heap.size := hF'.out.lt
  obtain ⟨W3, hW3⟩ : ∃ W3, Hid (W3 = w1.alloc (.cells #[.iface 147 (.agg #[.slice (some ⟨gr, 0, none⟩) h cap])] 93)) := ⟨_, rfl⟩
  obtain ⟨u, hu⟩ : ∃ u : Value, Hid (u = Value.agg #[.slice (some ⟨gr, 0, none⟩) h cap]) := ⟨_, rfl⟩
  have hb3 : Hid (Below W.heap.size W W3) := by rw [hW3.out]; exact hb1'.out.alloc hz1 _
  have hsz3 : W3.heap.size = w1.heap.size + 1 := by rw [hW3.out]; simp
  have hk3 : Hid (KeepW W.heap.size w1.heap.size w h u gs (fun _ _ => 0) W3) := by rw [hW3.out, hu.out]; exact (KeepW.zero hst'.out).kept (below_new _)
  have hx3 : Hid (Boxed W3 w1.heap.size 93 (.iface 147 u)) := by rw [hW3.out, hu.out]; exact Boxed.new w1 93 _
  have f3 := Lib.hid (f'.out.kept hb3.out)
  have K3 := Lib.hid f3.out.cells
  have hsz3' := Lib.hid hsz3
  clear hsz3
  gi_wp2_with fail
  rw [← hW3.out, ← hu.out]
  refine ⟨trivial, callsIn_wide.2 ((K3.out).mono ?_)⟩
  rintro e W4 ⟨fb4, E4, bx, rfl, f4, hbx, hbl, hb4⟩
  have f4' := Lib.hid f4
  have hbx' := Lib.hid hbx
  have hb4' := Lib.hid hb4
  have hx4 : Hid (Boxed W4 w1.heap.size 93 (.iface 147 u)) := (hb4.block _ hx3.out.lt).trans hx3.out
  have hk4 : Hid (KeepW W.heap.size w1.heap.size w h u gs (fun _ _ => 0) W4) := hk3.out.kept hb4
  have hB4 : Hid (Below W.heap.size W W4) := below_then hb3.out hb4 hb3.out.size
  have hl4 : Hid (E4 ≤ W4.heap.size ∧ bx < W4.heap.size ∧ w1.heap.size ≤ bx ∧ w1.heap.size ≤ W3.heap.size ∧ w1.heap.size < W4.heap.size) := by
    have h1 := f4.lies.2.2
    have h2 : bx < W4.heap.size := World.block_lt_of_cell? W4 _ hbx
    have h3 := hx4.out.lt
    have h4 := hsz3'.out
    exact ⟨h1, h2, by omega, by omega, h3⟩
  clear f4 hbx hb4 hbl hst' hb1'
  gi_wp2_with fail
  refine wpIn_rangeFunc_ownH rfl (by omega) (gf := 66) (lb := #[.pointer (some ⟨bx, 0, none⟩)]) rfl trivial (enters_of Tryz.func66 (by kernel_rfl) rfl)
    (f4'.out.stops (n := 7) (D := W4.heap.size) (B1 := W.heap.size) (E1 := w1.heap.size) (by omega) hbx'.out hl4.out.1 hl4.out.2.1 (.inr hl4.out.2.2.2.1) (.inr hl4.out.2.2.1)) (fun h k => h.trans k) (fun W l o o' hl _ _ _ => KpO.putObj W l o o' hl) (Below.refl _ _) (fun _ => rfl)
    (PkI W W4.heap.size w1.heap.size w h u gs c) (fun _ _ _ => False) ?hI ?hIx ?h0 (PkAx fb w1.heap.size bx w h u c) ?hAx ?assign ?body ?done ?stop
  case hI =>
    intro pre A C row hs hg hr
    obtain ⟨q1, q2, q3, q4⟩ := hs
    have hD := hl4.out.2.2.2.2
    refine ⟨q1.same fun g r1 r2 r3 => hg.block g r3 (fun e => ?_), (hg.block _ q2.lt (fun e => ?_)).trans q2, q3.grown hg q3.size (fun k e => ?_), Nat.le_trans q4 hg.size⟩
    · have := (hr g e.symm).1; omega
    · have := (hr _ e.symm).1; omega
    · have := (hr k e).1; omega
  case hIx => intro c0 s A C row hs hg hr; exact hs.elim
  case h0 => exact ⟨hk4.out.congr fun y x _ _ => by simp [fillP], hx4.out, hB4.out, Nat.le_refl _⟩
  case hAx =>
    intro p a' s A C row hs hg hr
    obtain ⟨Bx, q1, q2⟩ := hs
    refine ⟨Bx, (hg.block _ (Array.getElem?_eq_some_iff.1 q1).1 (fun e => ?_)).trans q1, q2⟩
    obtain ⟨_, o, r1, r2⟩ := hr _ e.symm
    rw [q1] at r1
    cases r1
    cases r2
  case assign =>
    intro l pre x W' K hi hK
    unfold encPt
    gi_wp2
    obtain ⟨q1, q2, q3, q4⟩ := hi
    have hbn : Below W'.heap.size W' (W'.alloc (.cells #[.int .i64 (x.1.2 : Int), .int .i64 (x.1.1 : Int)] 111)) := below_new _
    exact hK _ _ ((KeepsOthers.alloc _ _).from _) (KpO.of_below hbn q4) ⟨q1.kept hbn, (hbn.block _ q2.lt).trans q2, q3.alloc q3.size _, Nat.le_trans q4 hbn.size⟩ ⟨W'.heap.size, heap_alloc_new W' _, rfl⟩
  case body =>
    rintro l pre p a' W' hl hr ⟨k1, k2, k3, k4⟩ ⟨Bx, hx, rfl⟩ hlt
    have d0 : W'.cell? ⟨Bx, 0, none⟩ = some (.int .i64 (p.1.2 : Int)) := by rw [cell_of_row W' Bx 0 _ 111 (0, 0) hx]; rfl
    have d1 : W'.cell? ⟨Bx, 1, none⟩ = some (.int .i64 (p.1.1 : Int)) := by rw [cell_of_row W' Bx 1 _ 111 (0, 0) hx]; rfl
    have d2 : W'.cell? ⟨w1.heap.size, 0, none⟩ = some (.iface 147 u) := k2.cell
    have hps := p.2
    have hlow := f'.out.low p.1.1 p.1.2 hps.1 hps.2.1
    have KS := Lib.hid (k1.set f'.out.side.1.2 f'.out.side.2.1.2 hps.2.1 hps.1 hlow)
    have hgs : Hid (W.heap.size ≤ gs p.1.1 ∧ gs p.1.1 < w1.heap.size) := by
      obtain ⟨gr', cap', ws, cs, _, e2, r1, r2, _⟩ := k1
      obtain ⟨s1, _⟩ := own_slice (r1.row p.1.1 (by rw [e2]; exact hps.1))
      exact ⟨s1, r2.2 p.1.1 hps.1⟩
    have hfill : Hid (∀ y x, y < h → x < w → upd (fillP c pre) p.1.1 p.1.2 (c p.1.1 p.1.2) y x = fillP c (pre ++ [p]) y x) := fun y x _ _ => by
      unfold upd fillP
      rw [List.map_append]
      by_cases e : y = p.1.1 ∧ x = p.1.2
      · obtain ⟨e1, e2⟩ := e
        subst e1 e2
        rw [if_pos ⟨rfl, rfl⟩, if_pos (by simp)]
      · have : ((y, x) ∈ pre.map (·.1) ++ [p].map (·.1)) ↔ (y, x) ∈ pre.map (·.1) := by
          rw [List.mem_append]
          constructor
          · rintro (q | q)
            · exact q
            · simp at q
              exact absurd ⟨by rw [← q], by rw [← q]⟩ e
          · exact .inl
        rw [if_neg e]
        by_cases e3 : (y, x) ∈ pre.map (·.1)
        · rw [if_pos e3, if_pos (this.2 e3)]
        · rw [if_neg e3, if_neg (fun q => e3 (this.1 q))]
    have k1' := Lib.hid k1
    have k2' := Lib.hid k2
    have k3' := Lib.hid k3
    have hm := meth_set122
    clear hx k1 k2 k3 hr hps hlow
    gi_wp2_with fail
    refine ⟨trivial, CallsIn.inRound l (callsIn_wide.2 ((KS.out).mono ?_))⟩
    rintro e w5 ⟨⟨rv, rfl⟩, q1, q2⟩
    have q1' := Lib.hid q1
    have q2' := Lib.hid q2
    clear q1 q2 hm d0 d1 d2
    gi_wp2
    have hD := hl4.out.2.2.2.2
    have hlx := k2'.out.lt
    refine ⟨KeepsFrom.of_grownBy q2'.out (fun j e => by cases e; have := hgs.out; omega), KpO.of_only (Only.of_grown q2'.out hgs.out) k4, q1'.out.congr hfill.out, (q2'.out.block _ hlx (fun e => by injection e with e; have := hgs.out; omega)).trans k2'.out, k3'.out.grown q2'.out k3'.out.size (fun k e => by cases e; exact hgs.out.1), Nat.le_trans k4 q2'.out.size⟩
  case done =>
    rintro D xs W' hD hxs ⟨k1, k2, k3, k4⟩ hK
    have hFb : FBlk W' fb w h 2 false 151 u0 := (k3.block _ hfl).trans hF'.out
    have d3 : W'.cell? ⟨fb, 3, none⟩ = some (.bool false) := hFb.cell rfl
    have d4 : W'.cell? ⟨fb, 4, none⟩ = some (.iface 151 u0) := hFb.cell rfl
    have e3 : W'.frozen? ⟨fb, 3, none⟩ = false := frozen_of_row W' fb 3 _ 95 hFb
    have e4 : W'.frozen? ⟨fb, 4, none⟩ = false := frozen_of_row W' fb 4 _ 95 hFb
    have d5 : W'.cell? ⟨w1.heap.size, 0, none⟩ = some (.iface 147 u) := k2.cell
    have k1' := Lib.hid k1
    have k3' := Lib.hid k3
    have hFb' := Lib.hid hFb
    clear k1 k2 k3 hFb
    gi_wp2_with fail
    have hmx : Tryz.prog.follows .mixedOrders = true := by kernel_rfl
    have hfill : Hid (∀ y x, y < h → x < w → fillP c xs y x = c y x) := fun y x hy hx => by
      unfold fillP
      rw [show xs.map (·.1) = rowsL c w h from hxs]
      by_cases e : c y x = 0
      · rw [if_neg (fun q => ((mem_rowsL c w y x h).1 q).2.2 e), e]
      · rw [if_pos ((mem_rowsL c w y x h).2 ⟨hy, hx, e⟩)]
    clear hxs
    gi_region
    gi_wp2
    have hDw : W4.heap.size ≤ D := hD
    have hlx := hl4.out.2.2.2.2
    have hls := f'.out.lies
    have hne : D ≠ fb := by omega
    have hK5 : ((W'.setCell ⟨fb, 3, none⟩ (.bool true)).setCell ⟨fb, 4, none⟩ (.iface 147 u)).drew.heap[D]? = some (.deferred (some [])) := by
      show ((W'.setCell ⟨fb, 3, none⟩ (.bool true)).setCell ⟨fb, 4, none⟩ (.iface 147 u)).heap[D]? = _
      rw [heap_setCell_other _ ⟨fb, 4, none⟩ D _ hne, heap_setCell_other _ ⟨fb, 3, none⟩ D _ hne]
      exact hK
    refine ⟨by simp, .inl ⟨_, _, rfl, run_takeDeferred hK5, ?_⟩⟩
    refine ⟨_, results_tmp rfl _ _ _, w1.heap.size, rfl, ⟨f'.out.side, ⟨hls.1, by omega, ?_⟩, .inr ⟨rfl, rfl, u, gs, ?_, ?_⟩, f'.out.low⟩, by omega, ?_⟩
    · have := k3'.out.size
      simp
      omega
    · refine (World.putObj_heap_other (by omega)).trans ?_
      show ((W'.setCell ⟨fb, 3, none⟩ (.bool true)).setCell ⟨fb, 4, none⟩ (.iface 147 u)).heap[fb]? = _
      rw [heap_setCell_same _ fb 4 _ 95 _ (heap_setCell_same W' fb 3 _ 95 _ hFb'.out)]
      rfl
    · refine ((k1'.out.congr hfill.out).same fun g r1 r2 r3 => ?_).lower (by omega) (Nat.le_refl _)
      refine (World.putObj_heap_other (by omega)).trans ?_
      show ((W'.setCell ⟨fb, 3, none⟩ (.bool true)).setCell ⟨fb, 4, none⟩ (.iface 147 u)).heap[g]? = _
      rw [heap_setCell_other _ ⟨fb, 4, none⟩ g _ (by show g ≠ fb; omega), heap_setCell_other _ ⟨fb, 3, none⟩ g _ (by show g ≠ fb; omega)]
    · have g1 := (grown_setCell W' fb 3 (.bool true)).trans (grown_setCell (W'.setCell ⟨fb, 3, none⟩ (.bool true)) fb 4 (.iface 147 u))
      have b1 : Below ((W'.setCell ⟨fb, 3, none⟩ (.bool true)).setCell ⟨fb, 4, none⟩ (.iface 147 u)).heap.size ((W'.setCell ⟨fb, 3, none⟩ (.bool true)).setCell ⟨fb, 4, none⟩ (.iface 147 u)) ((W'.setCell ⟨fb, 3, none⟩ (.bool true)).setCell ⟨fb, 4, none⟩ (.iface 147 u)).drew := (Below.refl _ _).drew
      have g3 := grownBy_putObj' ((W'.setCell ⟨fb, 3, none⟩ (.bool true)).setCell ⟨fb, 4, none⟩ (.iface 147 u)).drew D (.deferred none)
      have k3o := k3'.out
      refine ⟨g3.os.trans (b1.os.trans (g1.os.trans k3o.os)), g3.tape.trans (b1.tape.trans (g1.tape.trans k3o.tape)), g3.output.trans (b1.output.trans (g1.output.trans k3o.output)), Nat.le_trans (Nat.le_trans (Nat.le_trans k3o.size g1.size) b1.size) g3.size, fun g r1 r2 => ?_⟩
      have z1 := k3o.size
      have z2 := g1.size
      have z3 := b1.size
      exact (g3.block g (by omega) (fun e => by injection e with e; omega)).trans ((b1.block g (by omega)).trans ((g1.block g (by omega) (fun e => by injection e with e; omega)).trans (k3o.block g r1)))
  case stop =>
    rintro D c0 pre W' _ _ hi _
    exact hi.elim
end
end Go.Proofs.YtcbhbojplcddkaaGreatDoor
namespace Go.Proofs.YtcbhbojplcddkaaGreatDoor
open Go.RowKit Go.RowBits Go.Shelf
set_option linter.unusedSimpArgs false
set_option linter.unusedVariables false
attribute [local go_sem] Oper.semAt_some

/-! ### Pack of a field of bits; Pop -/
section
variable {B E : Nat} {W W' : World} {fb w h s : Nat} {pk : Bool} {c : Nat → Nat → Nat}
set_option maxHeartbeats 1000000 in
theorem pack21t (f : Fld B E W fb w h 2 true c) : Calls Tryz.prog 22 #[.pointer (some ⟨fb, 0, none⟩), .bool true] W fun e w' => e = .returned (.int .i64 0) ∧ w' = W := by
  obtain ⟨T, u, hF⟩ : ∃ T u, FBlk W fb w h 2 true T u := f.blk
  have K1 := Lib.hid (none33 hF)
  have c2 : W.cell? ⟨fb, 2, none⟩ = some (.int .i64 2) := hF.cell rfl
  have c3 : W.cell? ⟨fb, 3, none⟩ = some (.bool true) := hF.cell rfl
  clear f hF
  go_enter Tryz.func22, Tryz.ntmps22
  go_wp2_with fail
  refine (K1.out).mono ?_
  rintro e w' ⟨rfl, hw'⟩
  subst w'
  go_wp2
  go_ret
  exact ⟨rfl, rfl⟩
theorem pack21 (f : Fld B E W fb w h 2 pk c) : Calls Tryz.prog 22 #[.pointer (some ⟨fb, 0, none⟩), .bool true] W (PackPost B E W fb w h c) := by
  cases pk with
  | false => exact pack21f f
  | true =>
    refine (pack21t f).mono ?_
    rintro e w' ⟨rfl, rfl⟩
    exact ⟨E, rfl, f, Nat.le_refl _, Only.refl _ _ _⟩
def PopI (W0 : World) (bn D w h : Nat) (c : Nat → Nat → Nat) (pre : List (LivePt w h c)) (W : World) : Prop := Boxed W bn 3 (.int .i64 (pre.length : Int)) ∧ Below W0.heap.size W0 W ∧ D ≤ W.heap.size
def PopPost (W : World) (w h : Nat) (c : Nat → Nat → Nat) (e : Ending) (w' : World) : Prop := e = .returned (.int .i64 ((rowsL c w h).length : Int)) ∧ Below W.heap.size W w'
set_option maxRecDepth 100000 in
set_option maxHeartbeats 4000000 in
theorem Fld.pop (f : Fld B E W fb w h s pk c) : Calls Tryz.prog 16 #[.pointer (some ⟨fb, 0, none⟩)] W (PopPost W w h c) := by
  have f' := Lib.hid f
  clear f
  refine (callsIn_wide (n := 8)).1 ?_
  refine callsIn_of_wp_marks Tryz.func16 rfl trivial ?_ rfl
  simp only [Tryz.ntmps16, List.size_toArray, List.length_cons, List.length_nil, Nat.reduceAdd, Nat.reduceSub, Array.replicate_succ, Array.replicate_zero, List.push_toArray, List.append_toArray, List.nil_append, List.cons_append]
  gi_wp2_with fail
  refine ⟨trivial, callsIn_wide.2 ((living55 _ _).mono ?_)⟩
  rintro e W3 ⟨rfl, hW3⟩
  have hx3 : Hid (Boxed W3 W.heap.size 3 (.int .i64 0)) := by
    rw [hW3]
    exact ((below_new (w := W.alloc (.cells #[.int .i64 0] 3)) _).block _ (by simp)).trans (heap_alloc_new W _)
  have hB3 : Hid (Below W.heap.size W W3) := by rw [hW3]; exact (below_new _).alloc (by simp) _
  have hz3 : Hid (W3.heap.size = W.heap.size + 2) := by rw [hW3]; show _ = _; simp
  have hbx : Hid (W3.cell? ⟨W.heap.size + 1, 0, none⟩ = some (.pointer (some ⟨fb, 0, none⟩))) := by rw [hW3]; show _ = _; simp
  have f3 := Lib.hid (f'.out.kept hB3.out)
  clear hW3
  gi_wp2_with fail
  refine wpIn_rangeFunc_ownG rfl (by omega) (gf := 66) (lb := #[.pointer (some ⟨W.heap.size + 1, 0, none⟩)]) rfl trivial (enters_of Tryz.func66 (by kernel_rfl) rfl)
    (f3.out.stops (n := 7) (D := W3.heap.size) (B1 := W.heap.size) (E1 := W.heap.size + 1) (by omega) hbx.out (by have := f'.out.lies; have := hz3.out; omega) (by have := hz3.out; omega) (.inl (by have := f'.out.lies; omega)) (.inr (by omega))) (fun h k => h.trans k) (fun W l o o' hl _ _ _ => KpO.putObj W l o o' hl) (Below.refl _ _) (fun _ => rfl)
    (PopI W W.heap.size W3.heap.size w h c) (fun _ _ _ => False) ?hI ?hIx ?h0 (fun p => { tmps := #[.pointer (some ⟨fb, 0, none⟩), undef, .int .i64 0, .pointer (some ⟨W.heap.size, 0, none⟩), .pointer (some ⟨fb, 0, none⟩), .func (.func 66) #[] #[.pointer (some ⟨W.heap.size + 1, 0, none⟩)], .agg #[.int .i64 (p.1.2 : Int), .int .i64 (p.1.1 : Int)], .int .u8 ((c p.1.1 p.1.2 : Nat) : Int), undef, undef, undef], defers := [] }) ?assign ?body ?done ?stop
  case hI =>
    intro pre A C row hs hg hr
    obtain ⟨q2, q3, q4⟩ := hs
    have hD := hz3.out
    refine ⟨(hg.block _ q2.lt (fun e => ?_)).trans q2, q3.grown hg q3.size (fun k e => ?_), Nat.le_trans q4 hg.size⟩
    · have := (hr _ e.symm).1; omega
    · have := (hr k e).1; omega
  case hIx => intro c0 s A C row hs hg hr; exact hs.elim
  case h0 => exact ⟨hx3.out, hB3.out, Nat.le_refl _⟩
  case assign =>
    intro l x W' K hK
    unfold encPt
    gi_wp2
    simpa using hK
  case body =>
    rintro l pre p W' ⟨k2, k3, k4⟩ hlt
    have hwh := f'.out.side.2.2.2
    have hcell : W'.cell? ⟨W.heap.size, 0, none⟩ = some (.int .i64 (pre.length : Int)) := k2.cell
    have hfr := k2.frozen
    have hle : pre.length ≤ 1048576 := by omega
    have k2' := Lib.hid k2
    have k3' := Lib.hid k3
    have hpl : Hid ((pre ++ [p]).length = pre.length + 1) := by show _ = _; simp
    clear k2 k3 hlt hwh
    generalize hn : pre.length = n at *
    have hn' := Lib.hid hn
    clear hn
    gi_wp2
    have hg := grown_setCell W' W.heap.size 0 (.int .i64 ((n : Int) + 1))
    have hD := hz3.out
    refine ⟨(KeepsOthers.setCell _ _ _).from _, KpO.of_only (Only.of_grown hg ⟨Nat.le_refl _, by omega⟩) k4, ?_, k3'.out.grown hg k3'.out.size (fun k e => by injection e with e; omega), Nat.le_trans k4 hg.size⟩
    unfold Boxed
    rw [heap_setCell_same W' W.heap.size 0 _ 3 _ k2'.out, hpl.out]
    simp
  case done =>
    rintro D xs W' hD hxs ⟨k2, k3, k4⟩ hK
    have hlen : xs.length = (rowsL c w h).length := by rw [← show xs.map (·.1) = rowsL c w h from hxs]; simp
    have hcell : W'.cell? ⟨W.heap.size, 0, none⟩ = some (.int .i64 (xs.length : Int)) := k2.cell
    rw [hlen] at hcell
    have k3' := Lib.hid k3
    have hz := hz3.out
    obtain ⟨m, hm⟩ : ∃ m, Hid (m = (rowsL c w h).length) := ⟨_, rfl⟩
    rw [← hm.out] at hcell
    clear hlen hxs k2 k3 hz
    gi_wp2
    refine ⟨by simp, .inl ⟨_, _, rfl, run_takeDeferred hK, ?_⟩⟩
    refine ⟨_, results_tmp rfl _ _ _, ?_⟩
    refine ⟨by rw [← hm.out]; rfl, k3'.out.grown (grownBy_putObj' W' D _) k3'.out.size (fun k e => ?_)⟩
    injection e with e
    have := hB3.out.size
    omega
  case stop =>
    rintro D c0 pre W' _ _ hi _
    exact hi.elim
end
end Go.Proofs.YtcbhbojplcddkaaGreatDoor
