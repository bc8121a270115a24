import Derived.Test.YtcbhbojplcddkaaGreatDoorZFdF
import Derived.Deep.CutRange
import Derived.Deep.RegionWith
namespace Go.Proofs.YtcbhbojplcddkaaGreatDoor
open Go.RowKit Go.RowBits
set_option linter.unusedSimpArgs false
set_option linter.unusedVariables false

/-! ### Clone (printed by mkFdH.py) -/
set_option maxHeartbeats 1000000 in
theorem clone20n (W : World) : Calls Tryz.prog 21 #[.pointer none] W fun e w' => e = .returned (.pointer none) ∧ w' = W := by
  have K := Lib.hid (none33n W)
  go_enter Tryz.func21, Tryz.ntmps21
  go_wp2_with fail
  refine (K.out).mono ?_
  rintro e w' ⟨rfl, hw'⟩
  subst w'
  go_wp2
  go_ret
  exact ⟨rfl, rfl⟩
set_option maxHeartbeats 1000000 in
theorem clone20z {W : World} {fb : Nat} (hc : W.cell? ⟨fb, 4, none⟩ = some .nilIface) : Calls Tryz.prog 21 #[.pointer (some ⟨fb, 0, none⟩)] W fun e w' => e = .returned (.pointer none) ∧ w' = W := by
  have K := Lib.hid (none33z hc)
  clear hc
  go_enter Tryz.func21, Tryz.ntmps21
  go_wp2_with fail
  refine (K.out).mono ?_
  rintro e w' ⟨rfl, hw'⟩
  subst w'
  go_wp2
  go_ret
  exact ⟨rfl, rfl⟩
set_option maxRecDepth 20000 in
set_option maxHeartbeats 4000000 in
theorem clone20y {W : World} {fb w h s : Nat} {pk : Bool} {u : Value} {P : Value → World → Prop} (hf : FBlk W fb w h s pk 151 u)
    (hcp : ∀ W', Below W.heap.size W W' → Calls Tryz.prog 117 #[u] W' fun e w' => ∃ u', e = .returned (.iface 151 u') ∧ P u' w' ∧ Below W'.heap.size W' w')
    (hP : ∀ u' W' W'', P u' W' → Below W'.heap.size W' W'' → P u' W'') :
    Calls Tryz.prog 21 #[.pointer (some ⟨fb, 0, none⟩)] W fun e w' => ∃ fb' u', e = .returned (.pointer (some ⟨fb', 0, none⟩)) ∧ W.heap.size ≤ fb' ∧ FBlk w' fb' w h s pk 151 u' ∧ P u' w' ∧ Below W.heap.size W w' := by
  have K := Lib.hid (none33 hf)
  have hcp' := Lib.hid hcp
  have hP' := Lib.hid hP
  have hf' := Lib.hid hf
  have c0 : W.cell? ⟨fb, 0, none⟩ = some (.int .i64 (w : Int)) := hf.cell rfl
  have c1 : W.cell? ⟨fb, 1, none⟩ = some (.int .i64 (h : Int)) := hf.cell rfl
  have c2 : W.cell? ⟨fb, 2, none⟩ = some (.int .i64 (s : Int)) := hf.cell rfl
  have c3 : W.cell? ⟨fb, 3, none⟩ = some (.bool pk) := hf.cell rfl
  have c4 : W.cell? ⟨fb, 4, none⟩ = some (.iface 151 u) := hf.cell rfl
  have hd : Hid (Below W.heap.size W W.drew) := (Below.refl _ _).drew
  clear hf hcp hP
  go_enter Tryz.func21, Tryz.ntmps21
  go_wp2_with fail
  refine (K.out).mono ?_
  rintro e w' ⟨rfl, hw'⟩
  subst w'
  go_upto_region 3 with fail
  go_region_with (go_at_call 117; refine (hcp'.out _ hd.out).mono ?_; rintro e w1 ⟨u', rfl, p1, hb⟩; have hb1 : Below W.heap.size W w1 := hd.out.trans hb; have p1' := Lib.hid p1; have hb1' := Lib.hid hb1; have d0 := cell_kept hb1 c0; have d1 := cell_kept hb1 c1; have d2 := cell_kept hb1 c2; have d3 := cell_kept hb1 c3; have d4 := cell_kept hb1 c4; clear hb hb1 p1)
  all_goals
    go_wp2
    go_ret
    refine ⟨w1.heap.size, u', rfl, hb1'.out.size, ?_, hP'.out _ _ _ p1'.out (below_new _), hb1'.out.alloc hb1'.out.size _⟩
    exact heap_alloc_new w1 _
set_option maxRecDepth 20000 in
set_option maxHeartbeats 4000000 in
theorem clone20w {W : World} {fb w h s : Nat} {pk : Bool} {u : Value} {P : Value → World → Prop} (hf : FBlk W fb w h s pk 147 u)
    (hcp : ∀ W', Below W.heap.size W W' → Calls Tryz.prog 113 #[u] W' fun e w' => ∃ u', e = .returned (.iface 147 u') ∧ P u' w' ∧ Below W'.heap.size W' w')
    (hP : ∀ u' W' W'', P u' W' → Below W'.heap.size W' W'' → P u' W'') :
    Calls Tryz.prog 21 #[.pointer (some ⟨fb, 0, none⟩)] W fun e w' => ∃ fb' u', e = .returned (.pointer (some ⟨fb', 0, none⟩)) ∧ W.heap.size ≤ fb' ∧ FBlk w' fb' w h s pk 147 u' ∧ P u' w' ∧ Below W.heap.size W w' := by
  have K := Lib.hid (none33 hf)
  have hcp' := Lib.hid hcp
  have hP' := Lib.hid hP
  have hf' := Lib.hid hf
  have c0 : W.cell? ⟨fb, 0, none⟩ = some (.int .i64 (w : Int)) := hf.cell rfl
  have c1 : W.cell? ⟨fb, 1, none⟩ = some (.int .i64 (h : Int)) := hf.cell rfl
  have c2 : W.cell? ⟨fb, 2, none⟩ = some (.int .i64 (s : Int)) := hf.cell rfl
  have c3 : W.cell? ⟨fb, 3, none⟩ = some (.bool pk) := hf.cell rfl
  have c4 : W.cell? ⟨fb, 4, none⟩ = some (.iface 147 u) := hf.cell rfl
  have hd : Hid (Below W.heap.size W W.drew) := (Below.refl _ _).drew
  clear hf hcp hP
  go_enter Tryz.func21, Tryz.ntmps21
  go_wp2_with fail
  refine (K.out).mono ?_
  rintro e w' ⟨rfl, hw'⟩
  subst w'
  go_upto_region 3 with fail
  go_region_with (go_at_call 113; refine (hcp'.out _ hd.out).mono ?_; rintro e w1 ⟨u', rfl, p1, hb⟩; have hb1 : Below W.heap.size W w1 := hd.out.trans hb; have p1' := Lib.hid p1; have hb1' := Lib.hid hb1; have d0 := cell_kept hb1 c0; have d1 := cell_kept hb1 c1; have d2 := cell_kept hb1 c2; have d3 := cell_kept hb1 c3; have d4 := cell_kept hb1 c4; clear hb hb1 p1)
  all_goals
    go_wp2
    go_ret
    refine ⟨w1.heap.size, u', rfl, hb1'.out.size, ?_, hP'.out _ _ _ p1'.out (below_new _), hb1'.out.alloc hb1'.out.size _⟩
    exact heap_alloc_new w1 _
end Go.Proofs.YtcbhbojplcddkaaGreatDoor
namespace Go.Proofs.YtcbhbojplcddkaaGreatDoor
open Go.RowKit Go.RowBits
set_option linter.unusedSimpArgs false
set_option linter.unusedVariables false

/-! ### Clone of a field with its store -/
theorem StY.lower {B B' : Nat} {W : World} {gr cap w : Nat} {cells : List (List Nat)} {gs cs : Nat → Nat} (h : StY B W gr cap w cells gs cs) (hb : B' ≤ B) : StY B' W gr cap w cells gs cs :=
  ⟨own_lower h.rows hb, fun y hy => own_lower (h.row y hy) hb, h.sep, h.pos⟩
theorem StW.lower {B B' : Nat} {W : World} {gr cap w : Nat} {ws : List (List Nat)} {gs cs : Nat → Nat} (h : StW B W gr cap w ws gs cs) (hb : B' ≤ B) : StW B' W gr cap w ws gs cs :=
  ⟨own_lower h.rows hb, fun y hy => own_lower (h.row y hy) hb, h.good, h.sep, h.pos⟩
theorem cloneY {B : Nat} {W : World} {fb w s gr cap : Nat} {pk : Bool} {cells : List (List Nat)} {gs cs : Nat → Nat} (hf : FBlk W fb w cells.length s pk 151 (.agg #[.slice (some ⟨gr, 0, none⟩) cells.length cap])) (hS : StY B W gr cap w cells gs cs) (hw : w ≤ 65536) (hh : cells.length ≤ 65536) :
    Calls Tryz.prog 21 #[.pointer (some ⟨fb, 0, none⟩)] W fun e w' => ∃ fb' gr' gs' cs', e = .returned (.pointer (some ⟨fb', 0, none⟩)) ∧ W.heap.size ≤ fb' ∧ FBlk w' fb' w cells.length s pk 151 (.agg #[.slice (some ⟨gr', 0, none⟩) cells.length cells.length]) ∧ StY W.heap.size w' gr' cells.length w cells gs' cs' ∧ Below W.heap.size W w' := by
  refine (clone20y (P := fun u W1 => ∃ gr' gs' cs', u = .agg #[.slice (some ⟨gr', 0, none⟩) cells.length cells.length] ∧ StY W.heap.size W1 gr' cells.length w cells gs' cs') hf ?_ ?_).mono ?_
  · intro W' hb
    refine (copied103 (hS.kept hb) hw hh).mono ?_
    rintro e w' ⟨gr', gs', cs', rfl, h1, h2⟩
    exact ⟨_, rfl, ⟨gr', gs', cs', rfl, h1.lower hb.size⟩, h2⟩
  · rintro u' W' W'' ⟨gr', gs', cs', rfl, h1⟩ hb
    exact ⟨gr', gs', cs', rfl, h1.kept hb⟩
  · rintro e w' ⟨fb', u', rfl, h1, h2, ⟨gr', gs', cs', rfl, h3⟩, h4⟩
    exact ⟨fb', gr', gs', cs', rfl, h1, h2, h3, h4⟩
theorem cloneW {B : Nat} {W : World} {fb w s gr cap : Nat} {pk : Bool} {ws : List (List Nat)} {gs cs : Nat → Nat} (hf : FBlk W fb w ws.length s pk 147 (.agg #[.slice (some ⟨gr, 0, none⟩) ws.length cap])) (hS : StW B W gr cap w ws gs cs) (hw : w ≤ 65536) (hh : ws.length ≤ 65536) :
    Calls Tryz.prog 21 #[.pointer (some ⟨fb, 0, none⟩)] W fun e w' => ∃ fb' gr' gs' cs', e = .returned (.pointer (some ⟨fb', 0, none⟩)) ∧ W.heap.size ≤ fb' ∧ FBlk w' fb' w ws.length s pk 147 (.agg #[.slice (some ⟨gr', 0, none⟩) ws.length ws.length]) ∧ StW W.heap.size w' gr' ws.length w ws gs' cs' ∧ Below W.heap.size W w' := by
  refine (clone20w (P := fun u W1 => ∃ gr' gs' cs', u = .agg #[.slice (some ⟨gr', 0, none⟩) ws.length ws.length] ∧ StW W.heap.size W1 gr' ws.length w ws gs' cs') hf ?_ ?_).mono ?_
  · intro W' hb
    refine (copied99 (hS.kept hb) hw hh).mono ?_
    rintro e w' ⟨gr', gs', cs', rfl, h1, h2⟩
    exact ⟨_, rfl, ⟨gr', gs', cs', rfl, h1.lower hb.size⟩, h2⟩
  · rintro u' W' W'' ⟨gr', gs', cs', rfl, h1⟩ hb
    exact ⟨gr', gs', cs', rfl, h1.kept hb⟩
  · rintro e w' ⟨fb', u', rfl, h1, h2, ⟨gr', gs', cs', rfl, h3⟩, h4⟩
    exact ⟨fb', gr', gs', cs', rfl, h1, h2, h3, h4⟩
end Go.Proofs.YtcbhbojplcddkaaGreatDoor
namespace Go.Proofs.YtcbhbojplcddkaaGreatDoor
open Go.RowKit Go.RowBits
set_option linter.unusedSimpArgs false
set_option linter.unusedVariables false

/-! ### Get and Set (printed by mkFdJ.py) -/
abbrev gotV (v e : Int) : Value := .tuple #[.int .u8 v, .int .i64 e]
set_option maxHeartbeats 1000000 in
theorem get61n (x y : Int) (W : World) : Calls Tryz.prog 69 #[.pointer none, .int .i64 x, .int .i64 y] W fun e w' => e = .returned (gotV 0 1) ∧ w' = W := by
  have K := Lib.hid (none33n W)
  go_enter Tryz.func69, Tryz.ntmps69
  go_wp2_with fail
  refine (K.out).mono ?_
  rintro e w' ⟨rfl, hw'⟩
  subst w'
  go_wp2
  go_ret2
  exact ⟨rfl, rfl⟩
set_option maxHeartbeats 1000000 in
theorem get61z {W : World} {fb : Nat} (x y : Int) (hc : W.cell? ⟨fb, 4, none⟩ = some .nilIface) : Calls Tryz.prog 69 #[.pointer (some ⟨fb, 0, none⟩), .int .i64 x, .int .i64 y] W fun e w' => e = .returned (gotV 0 1) ∧ w' = W := by
  have K := Lib.hid (none33z hc)
  clear hc
  go_enter Tryz.func69, Tryz.ntmps69
  go_wp2_with fail
  refine (K.out).mono ?_
  rintro e w' ⟨rfl, hw'⟩
  subst w'
  go_wp2
  go_ret2
  exact ⟨rfl, rfl⟩
set_option maxHeartbeats 1000000 in
theorem get61off {W : World} {fb w h s : Nat} {pk : Bool} {T : TypeId} {u : Value} {x y : Int} (hf : FBlk W fb w h s pk T u) (hb : hasB w h x y = false) : Calls Tryz.prog 69 #[.pointer (some ⟨fb, 0, none⟩), .int .i64 x, .int .i64 y] W fun e w' => e = .returned (gotV 0 130) ∧ Below W.heap.size W w' := by
  have K := Lib.hid (none33 hf)
  have K2 := Lib.hid (has53 w h s x y W)
  have c0 : W.cell? ⟨fb, 0, none⟩ = some (.int .i64 (w : Int)) := hf.cell rfl
  have c1 : W.cell? ⟨fb, 1, none⟩ = some (.int .i64 (h : Int)) := hf.cell rfl
  have c2 : W.cell? ⟨fb, 2, none⟩ = some (.int .i64 (s : Int)) := hf.cell rfl
  have c4 : W.cell? ⟨fb, 4, none⟩ = some (.iface T u) := hf.cell rfl
  rw [hb] at K2
  clear hf hb
  go_enter Tryz.func69, Tryz.ntmps69
  go_wp2_with fail
  refine (K.out).mono ?_
  rintro e w' ⟨rfl, hw'⟩
  subst w'
  go_wp2_with fail
  refine (K2.out).mono ?_
  rintro e w1 ⟨rfl, hb1⟩
  have hb1' := Lib.hid hb1
  clear hb1
  go_wp2
  go_ret2
  exact ⟨rfl, hb1'.out⟩
set_option maxHeartbeats 1000000 in
theorem get61y {W : World} {fb w h s v : Nat} {pk : Bool} {u : Value} {x y : Int} (hf : FBlk W fb w h s pk 151 u) (hb : hasB w h x y = true)
    (hget : ∀ W', Below W.heap.size W W' → Calls Tryz.prog 118 #[u, .int .i64 x, .int .i64 y] W' fun e w' => e = .returned (.int .u8 (v : Int)) ∧ Below W'.heap.size W' w') :
    Calls Tryz.prog 69 #[.pointer (some ⟨fb, 0, none⟩), .int .i64 x, .int .i64 y] W fun e w' => e = .returned (gotV (v : Int) 0) ∧ Below W.heap.size W w' := by
  have hget' := Lib.hid hget
  clear hget
  have K := Lib.hid (none33 hf)
  have K2 := Lib.hid (has53 w h s x y W)
  have c0 : W.cell? ⟨fb, 0, none⟩ = some (.int .i64 (w : Int)) := hf.cell rfl
  have c1 : W.cell? ⟨fb, 1, none⟩ = some (.int .i64 (h : Int)) := hf.cell rfl
  have c2 : W.cell? ⟨fb, 2, none⟩ = some (.int .i64 (s : Int)) := hf.cell rfl
  have c4 : W.cell? ⟨fb, 4, none⟩ = some (.iface 151 u) := hf.cell rfl
  rw [hb] at K2
  clear hf hb
  go_enter Tryz.func69, Tryz.ntmps69
  go_wp2_with fail
  refine (K.out).mono ?_
  rintro e w' ⟨rfl, hw'⟩
  subst w'
  go_wp2_with fail
  refine (K2.out).mono ?_
  rintro e w1 ⟨rfl, hb1⟩
  have hb1' := Lib.hid hb1
  have d4 := cell_kept hb1 c4
  clear hb1
  go_wp2_with fail
  refine (hget'.out _ hb1'.out).mono ?_
  rintro e w2 ⟨rfl, hb2⟩
  have hb2' := Lib.hid (below_then hb1'.out hb2 hb1'.out.size)
  clear hb2
  go_wp2
  go_ret2
  exact ⟨rfl, hb2'.out⟩
set_option maxHeartbeats 1000000 in
theorem get61w {W : World} {fb w h s v : Nat} {pk : Bool} {u : Value} {x y : Int} (hf : FBlk W fb w h s pk 147 u) (hb : hasB w h x y = true)
    (hget : ∀ W', Below W.heap.size W W' → Calls Tryz.prog 114 #[u, .int .i64 x, .int .i64 y] W' fun e w' => e = .returned (.int .u8 (v : Int)) ∧ Below W'.heap.size W' w') :
    Calls Tryz.prog 69 #[.pointer (some ⟨fb, 0, none⟩), .int .i64 x, .int .i64 y] W fun e w' => e = .returned (gotV (v : Int) 0) ∧ Below W.heap.size W w' := by
  have hget' := Lib.hid hget
  clear hget
  have K := Lib.hid (none33 hf)
  have K2 := Lib.hid (has53 w h s x y W)
  have c0 : W.cell? ⟨fb, 0, none⟩ = some (.int .i64 (w : Int)) := hf.cell rfl
  have c1 : W.cell? ⟨fb, 1, none⟩ = some (.int .i64 (h : Int)) := hf.cell rfl
  have c2 : W.cell? ⟨fb, 2, none⟩ = some (.int .i64 (s : Int)) := hf.cell rfl
  have c4 : W.cell? ⟨fb, 4, none⟩ = some (.iface 147 u) := hf.cell rfl
  rw [hb] at K2
  clear hf hb
  go_enter Tryz.func69, Tryz.ntmps69
  go_wp2_with fail
  refine (K.out).mono ?_
  rintro e w' ⟨rfl, hw'⟩
  subst w'
  go_wp2_with fail
  refine (K2.out).mono ?_
  rintro e w1 ⟨rfl, hb1⟩
  have hb1' := Lib.hid hb1
  have d4 := cell_kept hb1 c4
  clear hb1
  go_wp2_with fail
  refine (hget'.out _ hb1'.out).mono ?_
  rintro e w2 ⟨rfl, hb2⟩
  have hb2' := Lib.hid (below_then hb1'.out hb2 hb1'.out.size)
  clear hb2
  go_wp2
  go_ret2
  exact ⟨rfl, hb2'.out⟩
end Go.Proofs.YtcbhbojplcddkaaGreatDoor
namespace Go.Proofs.YtcbhbojplcddkaaGreatDoor
open Go.RowKit Go.RowBits
set_option linter.unusedSimpArgs false
set_option linter.unusedVariables false

/-! ### Set (printed by mkFdK.py) -/
set_option maxHeartbeats 1000000 in
theorem set32n (x y : Int) (v : Nat) (W : World) : Calls Tryz.prog 19 #[.pointer none, .int .i64 x, .int .i64 y, .int .u8 (v : Int)] W fun e w' => e = .returned (.int .i64 1) ∧ w' = W := by
  have K := Lib.hid (none33n W)
  go_enter Tryz.func19, Tryz.ntmps19
  go_wp2_with fail
  refine (K.out).mono ?_
  rintro e w' ⟨rfl, hw'⟩
  subst w'
  go_wp2
  go_ret
  exact ⟨rfl, rfl⟩
set_option maxHeartbeats 1000000 in
theorem set32z {W : World} {fb : Nat} (x y : Int) (v : Nat) (hc : W.cell? ⟨fb, 4, none⟩ = some .nilIface) : Calls Tryz.prog 19 #[.pointer (some ⟨fb, 0, none⟩), .int .i64 x, .int .i64 y, .int .u8 (v : Int)] W fun e w' => e = .returned (.int .i64 1) ∧ w' = W := by
  have K := Lib.hid (none33z hc)
  clear hc
  go_enter Tryz.func19, Tryz.ntmps19
  go_wp2_with fail
  refine (K.out).mono ?_
  rintro e w' ⟨rfl, hw'⟩
  subst w'
  go_wp2
  go_ret
  exact ⟨rfl, rfl⟩
set_option maxHeartbeats 1000000 in
theorem set32off {W : World} {fb w h s v : Nat} {pk : Bool} {T : TypeId} {u : Value} {x y : Int} (hf : FBlk W fb w h s pk T u) (hb : hasB w h x y = false) : Calls Tryz.prog 19 #[.pointer (some ⟨fb, 0, none⟩), .int .i64 x, .int .i64 y, .int .u8 (v : Int)] W fun e w' => e = .returned (.int .i64 130) ∧ Below W.heap.size W w' := by
  have K := Lib.hid (none33 hf)
  have K2 := Lib.hid (has53 w h s x y W)
  have c0 : W.cell? ⟨fb, 0, none⟩ = some (.int .i64 (w : Int)) := hf.cell rfl
  have c1 : W.cell? ⟨fb, 1, none⟩ = some (.int .i64 (h : Int)) := hf.cell rfl
  have c2 : W.cell? ⟨fb, 2, none⟩ = some (.int .i64 (s : Int)) := hf.cell rfl
  have c4 : W.cell? ⟨fb, 4, none⟩ = some (.iface T u) := hf.cell rfl
  rw [hb] at K2
  clear hf hb
  go_enter Tryz.func19, Tryz.ntmps19
  go_wp2_with fail
  refine (K.out).mono ?_
  rintro e w' ⟨rfl, hw'⟩
  subst w'
  go_wp2_with fail
  refine (K2.out).mono ?_
  rintro e w1 ⟨rfl, hb1⟩
  have hb1' := Lib.hid hb1
  clear hb1
  go_wp2
  go_ret
  exact ⟨rfl, hb1'.out⟩
set_option maxHeartbeats 1000000 in
theorem set32bad {W : World} {fb w h s v : Nat} {pk : Bool} {T : TypeId} {u : Value} {x y : Int} (hf : FBlk W fb w h s pk T u) (hb : hasB w h x y = true) (hv8 : v < 256) (hv : s ≤ v) : Calls Tryz.prog 19 #[.pointer (some ⟨fb, 0, none⟩), .int .i64 x, .int .i64 y, .int .u8 (v : Int)] W fun e w' => e = .returned (.int .i64 7) ∧ Below W.heap.size W w' := by
  have K := Lib.hid (none33 hf)
  have K2 := Lib.hid (has53 w h s x y W)
  have c0 : W.cell? ⟨fb, 0, none⟩ = some (.int .i64 (w : Int)) := hf.cell rfl
  have c1 : W.cell? ⟨fb, 1, none⟩ = some (.int .i64 (h : Int)) := hf.cell rfl
  have c2 : W.cell? ⟨fb, 2, none⟩ = some (.int .i64 (s : Int)) := hf.cell rfl
  have c4 : W.cell? ⟨fb, 4, none⟩ = some (.iface T u) := hf.cell rfl
  rw [hb] at K2
  clear hf hb
  have K3 := Lib.hid (fun W1 => knows54 w h s v hv8 W1)
  have hv' : decide ((v : Int) < (s : Int)) = false := decide_eq_false (by omega)
  rw [hv'] at K3
  clear hv hv'
  go_enter Tryz.func19, Tryz.ntmps19
  go_wp2_with fail
  refine (K.out).mono ?_
  rintro e w' ⟨rfl, hw'⟩
  subst w'
  go_wp2_with fail
  refine (K2.out).mono ?_
  rintro e w1 ⟨rfl, hb1⟩
  have hb1' := Lib.hid hb1
  have d0 := cell_kept hb1 c0
  have d1 := cell_kept hb1 c1
  have d2 := cell_kept hb1 c2
  have d4 := cell_kept hb1 c4
  clear hb1
  go_wp2_with fail
  refine (K3.out _).mono ?_
  rintro e w2 ⟨rfl, hb2⟩
  have hb3 := below_then hb1'.out hb2 hb1'.out.size
  have hb2' := Lib.hid hb3
  have e4 := cell_kept hb3 c4
  clear hb2 hb3
  go_wp2
  go_ret
  exact ⟨rfl, hb2'.out⟩
set_option maxHeartbeats 1000000 in
theorem set32y {P : World → Prop} {W : World} {fb w h s v : Nat} {pk : Bool} {u : Value} {x y : Int} (hf : FBlk W fb w h s pk 151 u) (hb : hasB w h x y = true) (hv8 : v < 256) (hv : v < s)
    (hset : ∀ W', Below W.heap.size W W' → Calls Tryz.prog 119 #[u, .int .i64 x, .int .i64 y, .int .u8 (v : Int)] W' fun e w' => (∃ r, e = .returned r) ∧ P w') :
    Calls Tryz.prog 19 #[.pointer (some ⟨fb, 0, none⟩), .int .i64 x, .int .i64 y, .int .u8 (v : Int)] W fun e w' => e = .returned (.int .i64 0) ∧ P w' := by
  have hset' := Lib.hid hset
  clear hset
  have K := Lib.hid (none33 hf)
  have K2 := Lib.hid (has53 w h s x y W)
  have c0 : W.cell? ⟨fb, 0, none⟩ = some (.int .i64 (w : Int)) := hf.cell rfl
  have c1 : W.cell? ⟨fb, 1, none⟩ = some (.int .i64 (h : Int)) := hf.cell rfl
  have c2 : W.cell? ⟨fb, 2, none⟩ = some (.int .i64 (s : Int)) := hf.cell rfl
  have c4 : W.cell? ⟨fb, 4, none⟩ = some (.iface 151 u) := hf.cell rfl
  rw [hb] at K2
  clear hf hb
  have K3 := Lib.hid (fun W1 => knows54 w h s v hv8 W1)
  have hv' : decide ((v : Int) < (s : Int)) = true := decide_eq_true (by omega)
  rw [hv'] at K3
  clear hv hv'
  go_enter Tryz.func19, Tryz.ntmps19
  go_wp2_with fail
  refine (K.out).mono ?_
  rintro e w' ⟨rfl, hw'⟩
  subst w'
  go_wp2_with fail
  refine (K2.out).mono ?_
  rintro e w1 ⟨rfl, hb1⟩
  have hb1' := Lib.hid hb1
  have d0 := cell_kept hb1 c0
  have d1 := cell_kept hb1 c1
  have d2 := cell_kept hb1 c2
  have d4 := cell_kept hb1 c4
  clear hb1
  go_wp2_with fail
  refine (K3.out _).mono ?_
  rintro e w2 ⟨rfl, hb2⟩
  have hb3 := below_then hb1'.out hb2 hb1'.out.size
  have hb2' := Lib.hid hb3
  have e4 := cell_kept hb3 c4
  clear hb2 hb3
  go_wp2_with fail
  refine (hset'.out _ hb2'.out).mono ?_
  rintro e w3 ⟨⟨r, rfl⟩, hp⟩
  have hp' := Lib.hid hp
  clear hp
  go_wp2
  go_ret
  exact ⟨rfl, hp'.out⟩
set_option maxHeartbeats 1000000 in
theorem set32w {P : World → Prop} {W : World} {fb w h s v : Nat} {pk : Bool} {u : Value} {x y : Int} (hf : FBlk W fb w h s pk 147 u) (hb : hasB w h x y = true) (hv8 : v < 256) (hv : v < s)
    (hset : ∀ W', Below W.heap.size W W' → Calls Tryz.prog 115 #[u, .int .i64 x, .int .i64 y, .int .u8 (v : Int)] W' fun e w' => (∃ r, e = .returned r) ∧ P w') :
    Calls Tryz.prog 19 #[.pointer (some ⟨fb, 0, none⟩), .int .i64 x, .int .i64 y, .int .u8 (v : Int)] W fun e w' => e = .returned (.int .i64 0) ∧ P w' := by
  have hset' := Lib.hid hset
  clear hset
  have K := Lib.hid (none33 hf)
  have K2 := Lib.hid (has53 w h s x y W)
  have c0 : W.cell? ⟨fb, 0, none⟩ = some (.int .i64 (w : Int)) := hf.cell rfl
  have c1 : W.cell? ⟨fb, 1, none⟩ = some (.int .i64 (h : Int)) := hf.cell rfl
  have c2 : W.cell? ⟨fb, 2, none⟩ = some (.int .i64 (s : Int)) := hf.cell rfl
  have c4 : W.cell? ⟨fb, 4, none⟩ = some (.iface 147 u) := hf.cell rfl
  rw [hb] at K2
  clear hf hb
  have K3 := Lib.hid (fun W1 => knows54 w h s v hv8 W1)
  have hv' : decide ((v : Int) < (s : Int)) = true := decide_eq_true (by omega)
  rw [hv'] at K3
  clear hv hv'
  go_enter Tryz.func19, Tryz.ntmps19
  go_wp2_with fail
  refine (K.out).mono ?_
  rintro e w' ⟨rfl, hw'⟩
  subst w'
  go_wp2_with fail
  refine (K2.out).mono ?_
  rintro e w1 ⟨rfl, hb1⟩
  have hb1' := Lib.hid hb1
  have d0 := cell_kept hb1 c0
  have d1 := cell_kept hb1 c1
  have d2 := cell_kept hb1 c2
  have d4 := cell_kept hb1 c4
  clear hb1
  go_wp2_with fail
  refine (K3.out _).mono ?_
  rintro e w2 ⟨rfl, hb2⟩
  have hb3 := below_then hb1'.out hb2 hb1'.out.size
  have hb2' := Lib.hid hb3
  have e4 := cell_kept hb3 c4
  clear hb2 hb3
  go_wp2_with fail
  refine (hset'.out _ hb2'.out).mono ?_
  rintro e w3 ⟨⟨r, rfl⟩, hp⟩
  have hp' := Lib.hid hp
  clear hp
  go_wp2
  go_ret
  exact ⟨rfl, hp'.out⟩
end Go.Proofs.YtcbhbojplcddkaaGreatDoor
namespace Go.Proofs.YtcbhbojplcddkaaGreatDoor
open Go.RowKit Go.RowBits
set_option linter.unusedSimpArgs false
set_option linter.unusedVariables false

/-! ### words.New -/
set_option maxHeartbeats 1000000 in
theorem new59 {n m : Nat} (hn : n ≤ 65538) (hm : m = (n + 63) / 64) (W : World) : Calls Tryz.prog 63 #[.int .i64 (n : Int)] W fun e w' => ∃ g, e = .returned (.tuple #[.agg #[.int .i64 (n : Int), .slice (some ⟨g, 0, none⟩) m m], .int .i64 0]) ∧ W.heap.size ≤ g ∧ w'.heap[g]? = some (.cells ((List.replicate m 0).map wv).toArray 61 (0, 0)) ∧ Below W.heap.size W w' := by
  have K := Lib.hid (fun W => blank_any hn hm W)
  go_enter Tryz.func63, Tryz.ntmps63
  go_wp2_with fail
  refine (K.out _).mono ?_
  rintro e w1 ⟨g, rfl, h1, h2, hb⟩
  simp only [World.size_alloc] at h1
  have hg : W.heap.size + 1 ≤ g := by simpa using h1
  have hz : W.heap.size < w1.heap.size := by have := h2.lt; omega
  obtain ⟨o, ho⟩ : ∃ o : Obj, o = .cells #[.int .i64 0, .slice none 0 0] 58 := ⟨_, rfl⟩
  have hbk : w1.heap[W.heap.size]? = some (.cells #[.int .i64 0, .slice none 0 0] 58 (0, 0)) := (hb.block _ (by simp)).trans (heap_alloc_new W _)
  have d0 : w1.cell? ⟨W.heap.size, 0, none⟩ = some (.int .i64 0) := by rw [cell_of_row w1 W.heap.size 0 _ 58 (0, 0) hbk]; rfl
  have d1 : w1.cell? ⟨W.heap.size, 1, none⟩ = some (.slice none 0 0) := by rw [cell_of_row w1 W.heap.size 1 _ 58 (0, 0) hbk]; rfl
  have f0 : w1.frozen? ⟨W.heap.size, 0, none⟩ = false := frozen_of_row w1 _ 0 _ 58 hbk
  have f1 : w1.frozen? ⟨W.heap.size, 1, none⟩ = false := frozen_of_row w1 _ 1 _ 58 hbk
  have hb' := Lib.hid (below_then (below_new (w := W) _) hb (by simp))
  have h2' := Lib.hid h2
  clear hb h2 hbk ho o h1
  go_wp2
  try simp only [Exit.inBlock, Exit.then]
  refine bodyPost_ret (v := .tuple #[.agg #[.int .i64 (n : Int), .slice (some ⟨g, 0, none⟩) m m], .int .i64 0]) ?_ rfl ⟨g, rfl, by omega, ?_, ?_⟩
  · rw [results_cell2 rfl]
    go_simp
  · rw [heap_setCell_other _ ⟨W.heap.size, 1, none⟩ g _ (by simp; omega), heap_setCell_other w1 ⟨W.heap.size, 0, none⟩ g _ (by simp; omega)]
    exact h2'.out
  · exact (hb'.out.setCell (by simp) _).setCell (by simp) _
end Go.Proofs.YtcbhbojplcddkaaGreatDoor
namespace Go.Proofs.YtcbhbojplcddkaaGreatDoor
end Go.Proofs.YtcbhbojplcddkaaGreatDoor
