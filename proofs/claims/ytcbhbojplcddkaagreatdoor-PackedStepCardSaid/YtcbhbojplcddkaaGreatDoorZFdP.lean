import Derived.Test.YtcbhbojplcddkaaGreatDoorZFdO
import Derived.Test.YtcbhbojplcddkaaGreatDoorZFdH
import Derived.Deep.RegionWith
import Derived.Deep.CutRange
namespace Go.Proofs.YtcbhbojplcddkaaGreatDoor
open Go.RowKit Go.RowBits
set_option linter.unusedSimpArgs false
set_option linter.unusedVariables false

/-! ### field.New of numbers that may be (printed by mkFdP.py) -/
def NewPost (P : Value → World → Prop) (W : World) (w h s : Nat) (pk : Bool) (T : TypeId) (e : Ending) (w' : World) : Prop :=
  ∃ fb' u', e = .returned (.tuple #[.pointer (some ⟨fb', 0, none⟩), .int .i64 0]) ∧ W.heap.size ≤ fb' ∧ FBlk w' fb' w h s pk T u' ∧ P u' w' ∧ Below W.heap.size W w'
set_option maxRecDepth 20000 in
set_option maxHeartbeats 4000000 in
theorem new27y {w h s : Nat} {P : Value → World → Prop} (hok : newOk (w : Int) (h : Int) (s : Int)) (hwh : w * h ≤ 1048576) (W : World)
    (hcp : ∀ W', W.heap.size ≤ W'.heap.size → Calls Tryz.prog 33 #[shapeV w h s, .bool false] W' fun e w' => ∃ u', e = .returned (.iface 151 u') ∧ P u' w' ∧ Below W'.heap.size W' w')
    (hP : ∀ u' W' W'', P u' W' → Below W'.heap.size W' W'' → P u' W'') :
    Calls Tryz.prog 10 #[.int .i64 (w : Int), .int .i64 (h : Int), .int .i64 (s : Int), .bool false] W (NewPost P W w h s false 151) := by
  have hwr := wh_wrap hok
  obtain ⟨h0, h1, h2, h3, h4, h5⟩ := hok
  have hle : (w : Int) * (h : Int) ≤ 1048576 := by rw [← Int.natCast_mul]; exact Int.ofNat_le.2 hwh
  have hcp' := Lib.hid hcp
  have hP' := Lib.hid hP
  clear hcp hP hwh
  go_enter Tryz.func10, Tryz.ntmps10
  go_wp2_with fail
  clear hwr hle
  obtain ⟨W2, hW2⟩ : ∃ W2, Hid (W2 = W.alloc (.cells #[.int .i64 (w : Int), .int .i64 (h : Int), .int .i64 (s : Int)] 91)) := ⟨_, rfl⟩
  have hB2 : Hid (Below W.heap.size W W2) := by rw [hW2.out]; exact below_new _
  have hbk : W2.heap[W.heap.size]? = some (.cells #[.int .i64 (w : Int), .int .i64 (h : Int), .int .i64 (s : Int)] 91 (0, 0)) := by rw [hW2.out]; exact heap_alloc_new W _
  have c0 : W2.cell? ⟨W.heap.size, 0, none⟩ = some (.int .i64 (w : Int)) := by rw [cell_of_row W2 _ 0 _ 91 (0, 0) hbk]; rfl
  have c1 : W2.cell? ⟨W.heap.size, 1, none⟩ = some (.int .i64 (h : Int)) := by rw [cell_of_row W2 _ 1 _ 91 (0, 0) hbk]; rfl
  have c2 : W2.cell? ⟨W.heap.size, 2, none⟩ = some (.int .i64 (s : Int)) := by rw [cell_of_row W2 _ 2 _ 91 (0, 0) hbk]; rfl
  have hd : Hid (Below W2.heap.size W2 W2.drew) := (Below.refl _ _).drew
  have hsz : Hid (W.heap.size ≤ W2.drew.heap.size) := Nat.le_trans hB2.out.size hd.out.size
  rw [← hW2.out]
  clear hbk
  go_region_with (go_at_call 33; refine (hcp'.out _ hsz.out).mono ?_; rintro e w1 ⟨u', rfl, p1, hb⟩; have hb1 : Below W2.heap.size W2 w1 := hd.out.trans hb; have p1' := Lib.hid p1; have hb1' := Lib.hid hb1; have d0 := cell_kept hb1 c0; have d1 := cell_kept hb1 c1; have d2 := cell_kept hb1 c2; clear hb hb1 p1)
  all_goals
    go_wp2
    go_ret2
    exact ⟨w1.heap.size, u', rfl, Nat.le_trans hB2.out.size hb1'.out.size, heap_alloc_new w1 _, hP'.out _ _ _ p1'.out (below_new _), (below_then hB2.out hb1'.out hB2.out.size).alloc (Nat.le_trans hB2.out.size hb1'.out.size) _⟩
set_option maxRecDepth 20000 in
set_option maxHeartbeats 4000000 in
theorem new27w {w h s : Nat} {P : Value → World → Prop} (hok : newOk (w : Int) (h : Int) (s : Int)) (hwh : w * h ≤ 1048576) (hs2 : s ≤ 2) (W : World)
    (hcp : ∀ W', W.heap.size ≤ W'.heap.size → Calls Tryz.prog 33 #[shapeV w h s, .bool true] W' fun e w' => ∃ u', e = .returned (.iface 147 u') ∧ P u' w' ∧ Below W'.heap.size W' w')
    (hP : ∀ u' W' W'', P u' W' → Below W'.heap.size W' W'' → P u' W'') :
    Calls Tryz.prog 10 #[.int .i64 (w : Int), .int .i64 (h : Int), .int .i64 (s : Int), .bool true] W (NewPost P W w h s true 147) := by
  have hwr := wh_wrap hok
  obtain ⟨h0, h1, h2, h3, h4, h5⟩ := hok
  have hle : (w : Int) * (h : Int) ≤ 1048576 := by rw [← Int.natCast_mul]; exact Int.ofNat_le.2 hwh
  have hcp' := Lib.hid hcp
  have hP' := Lib.hid hP
  clear hcp hP hwh
  go_enter Tryz.func10, Tryz.ntmps10
  go_wp2_with fail
  clear hwr hle
  obtain ⟨W2, hW2⟩ : ∃ W2, Hid (W2 = W.alloc (.cells #[.int .i64 (w : Int), .int .i64 (h : Int), .int .i64 (s : Int)] 91)) := ⟨_, rfl⟩
  have hB2 : Hid (Below W.heap.size W W2) := by rw [hW2.out]; exact below_new _
  have hbk : W2.heap[W.heap.size]? = some (.cells #[.int .i64 (w : Int), .int .i64 (h : Int), .int .i64 (s : Int)] 91 (0, 0)) := by rw [hW2.out]; exact heap_alloc_new W _
  have c0 : W2.cell? ⟨W.heap.size, 0, none⟩ = some (.int .i64 (w : Int)) := by rw [cell_of_row W2 _ 0 _ 91 (0, 0) hbk]; rfl
  have c1 : W2.cell? ⟨W.heap.size, 1, none⟩ = some (.int .i64 (h : Int)) := by rw [cell_of_row W2 _ 1 _ 91 (0, 0) hbk]; rfl
  have c2 : W2.cell? ⟨W.heap.size, 2, none⟩ = some (.int .i64 (s : Int)) := by rw [cell_of_row W2 _ 2 _ 91 (0, 0) hbk]; rfl
  have hd : Hid (Below W2.heap.size W2 W2.drew) := (Below.refl _ _).drew
  have hsz : Hid (W.heap.size ≤ W2.drew.heap.size) := Nat.le_trans hB2.out.size hd.out.size
  rw [← hW2.out]
  clear hbk
  go_region_with (go_at_call 33; refine (hcp'.out _ hsz.out).mono ?_; rintro e w1 ⟨u', rfl, p1, hb⟩; have hb1 : Below W2.heap.size W2 w1 := hd.out.trans hb; have p1' := Lib.hid p1; have hb1' := Lib.hid hb1; have d0 := cell_kept hb1 c0; have d1 := cell_kept hb1 c1; have d2 := cell_kept hb1 c2; clear hb hb1 p1)
  all_goals
    go_wp2
    go_ret2
    exact ⟨w1.heap.size, u', rfl, Nat.le_trans hB2.out.size hb1'.out.size, heap_alloc_new w1 _, hP'.out _ _ _ p1'.out (below_new _), (below_then hB2.out hb1'.out hB2.out.size).alloc (Nat.le_trans hB2.out.size hb1'.out.size) _⟩
end Go.Proofs.YtcbhbojplcddkaaGreatDoor
