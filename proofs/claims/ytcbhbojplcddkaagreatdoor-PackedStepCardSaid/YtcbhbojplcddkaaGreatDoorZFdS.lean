import Derived.Test.YtcbhbojplcddkaaGreatDoorZFdQ
import Derived.RangeFuncNested
import Derived.RangeFuncBound
import Derived.RangeFuncCalls
import Derived.RangeFuncLeaves
import Derived.Shelf.Abstract
import Derived.Shelf.RegionOpen
import Derived.OwnWalkIn
import Derived.TacticsInMore
import Derived.LoopNIn
import Derived.LoopIn
namespace Go.Proofs.YtcbhbojplcddkaaGreatDoor
open Go.RowKit Go.RowBits Go.Shelf
set_option linter.unusedSimpArgs false
set_option linter.unusedVariables false
attribute [local go_sem] Oper.semAt_some

theorem meth_get126 (u : Value) (W : World) : Sem.run Tryz.prog (method 365 151 u "vivarium/field.get") W = .ok (118, u) W := by kernel_rfl
theorem meth_get122 (u : Value) (W : World) : Sem.run Tryz.prog (method 365 147 u "vivarium/field.get") W = .ok (114, u) W := by kernel_rfl
theorem meth_set126 (u : Value) (W : World) : Sem.run Tryz.prog (method 365 151 u "vivarium/field.set") W = .ok (119, u) W := by kernel_rfl
theorem meth_set122 (u : Value) (W : World) : Sem.run Tryz.prog (method 365 147 u "vivarium/field.set") W = .ok (115, u) W := by kernel_rfl
/-! ### The iterator over the living cells (printed by mkFdS.py) -/
/-- A living cell: its row, its column. -/
def LivePt (w h : Nat) (c : Nat → Nat → Nat) := { p : Nat × Nat // p.1 < h ∧ p.2 < w ∧ c p.1 p.2 ≠ 0 }
def encPt {w h : Nat} {c : Nat → Nat → Nat} (p : LivePt w h c) : Array Value := #[.agg #[.int .i64 (p.1.2 : Int), .int .i64 (p.1.1 : Int)], .int .u8 ((c p.1.1 p.1.2 : Nat) : Int)]
def rowL (c : Nat → Nat → Nat) (y x : Nat) : List (Nat × Nat) := ((List.range x).filter fun x => decide (c y x ≠ 0)).map fun x => (y, x)
def rowsL (c : Nat → Nat → Nat) (w y : Nat) : List (Nat × Nat) := (List.range y).flatMap fun y => rowL c y w
theorem rowL_zero (c : Nat → Nat → Nat) (y : Nat) : rowL c y 0 = [] := rfl
theorem rowL_succ (c : Nat → Nat → Nat) (y x : Nat) : rowL c y (x + 1) = if c y x ≠ 0 then rowL c y x ++ [(y, x)] else rowL c y x := by
  unfold rowL
  rw [List.range_succ, List.filter_append, List.map_append]
  by_cases h : c y x = 0
  · simp [h]
  · simp [h]
theorem rowsL_succ (c : Nat → Nat → Nat) (w y : Nat) : rowsL c w (y + 1) = rowsL c w y ++ rowL c y w := by
  unfold rowsL
  rw [List.range_succ, List.flatMap_append]
  simp
theorem rowL_len (c : Nat → Nat → Nat) (y x : Nat) : (rowL c y x).length ≤ x := by
  unfold rowL
  rw [List.length_map]
  exact Nat.le_trans (List.length_filter_le _ _) (by simp)
theorem rowsL_len (c : Nat → Nat → Nat) (w : Nat) : ∀ y, (rowsL c w y).length ≤ y * w
  | 0 => by simp [rowsL]
  | y + 1 => by
    have := rowsL_len c w y
    have := rowL_len c y w
    rw [rowsL_succ, List.length_append, Nat.add_mul]
    omega
/-- What a round must leave: the blocks below D, but for those from B1 up to E1. -/
structure KpO (D B1 E1 : Nat) (W W' : World) : Prop where
  size : W.heap.size ≤ W'.heap.size
  block : ∀ k, k < D → (k < B1 ∨ E1 ≤ k) → W'.heap[k]? = W.heap[k]?
theorem KpO.refl (D B1 E1 : Nat) (W : World) : KpO D B1 E1 W W := ⟨Nat.le_refl _, fun _ _ _ => rfl⟩
theorem KpO.trans {D B1 E1 : Nat} {A B C : World} (h : KpO D B1 E1 A B) (k : KpO D B1 E1 B C) : KpO D B1 E1 A C := ⟨Nat.le_trans h.size k.size, fun i hi he => (k.block i hi he).trans (h.block i hi he)⟩
theorem KpO.putObj {D B1 E1 : Nat} (W : World) (l : Nat) (o o' : Obj) (hl : D ≤ l) : KpO D B1 E1 W (W.putObj l o') := ⟨by simp, fun k hk _ => World.putObj_heap_other (by omega)⟩
theorem KpO.of_below {D B1 E1 : Nat} {W W' : World} (h : Below W.heap.size W W') (hD : D ≤ W.heap.size) : KpO D B1 E1 W W' := ⟨h.size, fun k hk _ => h.block k (by omega)⟩
theorem KpO.of_only {D B1 E1 : Nat} {W W' : World} (h : Only B1 E1 W W') (hD : D ≤ W.heap.size) : KpO D B1 E1 W W' := ⟨h.size, fun k hk he => h.block k (by omega) he⟩
section
variable {w h : Nat} {c : Nat → Nat → Nat}
def AllCome (w h : Nat) (c : Nat → Nat → Nat) (xs : List (LivePt w h c)) : Prop := xs.map (·.1) = rowsL c w h
def LvRel (Pf : World → Prop) (J : List (LivePt w h c) → World → Prop) (i : Value) (wx : World) : Prop :=
  ∃ (y : Nat) (pre : List (LivePt w h c)), y ≤ h ∧ i = .int .i64 (y : Int) ∧ pre.map (·.1) = rowsL c w y ∧ J pre wx ∧ Pf wx
def LvRel2 (Pf : World → Prop) (J : List (LivePt w h c) → World → Prop) (y : Nat) (i : Value) (wx : World) : Prop :=
  ∃ (x : Nat) (pre : List (LivePt w h c)), x ≤ w ∧ i = .int .i64 (x : Int) ∧ pre.map (·.1) = rowsL c w y ++ rowL c y x ∧ J pre wx ∧ Pf wx
set_option maxRecDepth 100000 in
set_option maxHeartbeats 4000000 in
theorem living64y (n : Nat) (hn : 1 ≤ n) (l bx fb s : Nat) (pk : Bool) (u : Value) (Pf : World → Prop) (Kp : World → World → Prop) (J Jx : List (LivePt w h c) → World → Prop) (hw : w ≤ 65536) (hh : h ≤ 65536)
    (hY : ∀ pre x W, J pre W → pre.length < w * h → YieldAt Fence.wide (n - 1) Tryz.prog l (encPt x) W fun e W' =>
      (e = .returned (.bool true) ∧ J (pre ++ [x]) W' ∧ Kp W W') ∨ (e = .returned (.bool false) ∧ Jx (pre ++ [x]) W'))
    (hbx : ∀ W, Pf W → W.cell? ⟨bx, 0, none⟩ = some (.pointer (some ⟨fb, 0, none⟩)) ∧ FBlk W fb w h s pk 151 u)
    (hget : ∀ W (x y : Nat), Pf W → x < w → y < h → Calls Tryz.prog 118 #[u, .int .i64 (x : Int), .int .i64 (y : Int)] W fun e w' => e = .returned (.int .u8 ((c y x : Nat) : Int)) ∧ Below W.heap.size W w')
    (hPf : ∀ W W', Pf W → Below W.heap.size W W' → Pf W') (hPk : ∀ W W', Pf W → Kp W W' → Pf W') (hJ : ∀ pre W W', J pre W → Below W.heap.size W W' → J pre W')
    (W : World) (h0 : J [] W) (hp : Pf W) :
    CallsIn Fence.wide n Tryz.prog 66 #[.func (.yield l) #[] #[], .pointer (some ⟨bx, 0, none⟩)] W fun e W' => (∃ v, e = .returned v) ∧
      ((∃ xs, AllCome w h c xs ∧ J xs W') ∨ (∃ pre, True ∧ Jx pre W')) := by
  refine callsIn_of_wp Tryz.func66 rfl trivial ?_ rfl
  simp only [Tryz.ntmps66, List.size_toArray, List.length_cons, List.length_nil, Nat.reduceAdd, Nat.reduceSub, Array.replicate_succ, Array.replicate_zero, List.push_toArray, List.append_toArray, List.nil_append, List.cons_append]
  have K1 := Lib.hid (none33 (hbx W hp).2)
  have c1 := (hbx W hp).1
  have c2 : W.cell? ⟨fb, 1, none⟩ = some (.int .i64 (h : Int)) := (hbx W hp).2.cell rfl
  have hY' := Lib.hid hY
  have hbx' := Lib.hid hbx
  have hget' := Lib.hid hget
  have hPf' := Lib.hid hPf
  have hPk' := Lib.hid hPk
  have hJ' := Lib.hid hJ
  have h0' := Lib.hid h0
  have hp' := Lib.hid hp
  clear hY hbx hget hPf hPk hJ h0 hp
  gi_wp2_with fail
  refine ⟨trivial, callsIn_wide.2 ((K1.out).mono ?_)⟩
  rintro e w' ⟨rfl, hw'⟩
  subst w'
  gi_wp2
  clear c1 c2 K1
  gi_loopw [13] (fun i wr => LvRel Pf J i wr) (fun i _ => h - (intOf i).toNat)
  case atStart => exact ⟨0, [], by omega, by go_num, rfl, h0'.out, hp'.out⟩
  case round =>
    obtain ⟨y, pre, hy, rfl, hpre, hJ1, hP1⟩ := hrel
    have hpre' := Lib.hid hpre
    have hJ1' := Lib.hid hJ1
    have hP1' := Lib.hid hP1
    have d1 := (hbx'.out _ hP1).1
    have d2 : wr.cell? ⟨fb, 0, none⟩ = some (.int .i64 (w : Int)) := (hbx'.out _ hP1).2.cell rfl
    clear hpre hJ1 hP1
    by_cases hlt : y < h
    · gi_wp2
      clear d1 d2
      gi_loopw [21] (fun i wr => LvRel2 Pf J y i wr) (fun i _ => w - (intOf i).toNat)
      case atStart => exact ⟨0, pre, by omega, by go_num, by rw [rowL_zero, List.append_nil]; exact hpre'.out, hJ1'.out, hP1'.out⟩
      case round =>
        rename World => wx
        obtain ⟨x, pre2, hx, rfl, hpre2, hJ2, hP2⟩ := hrel
        have hpre2' := Lib.hid hpre2
        have hJ2' := Lib.hid hJ2
        have hP2' := Lib.hid hP2
        have d1 := (hbx'.out _ hP2).1
        have d2 : wx.cell? ⟨fb, 4, none⟩ = some (.iface 151 u) := (hbx'.out _ hP2).2.cell rfl
        clear hpre2 hJ2 hP2
        by_cases hlx : x < w
        · have KK := Lib.hid (hget'.out wx x y hP2'.out hlx hlt)
          have hm := meth_get126
          gi_wp2_with fail
          refine ⟨trivial, callsIn_wide.2 ((KK.out).mono ?_)⟩
          rintro e w3 ⟨rfl, hb⟩
          have hP3 := hPf'.out _ _ hP2'.out hb
          have hJ3 := hJ'.out _ _ _ hJ2'.out hb
          have hP3' := Lib.hid hP3
          have hJ3' := Lib.hid hJ3
          have hrs := Lib.hid (rowL_succ c y x)
          clear hb KK hm d1 d2 hP3 hJ3
          by_cases hz : c y x = 0
          · rw [hz]
            have hpn : Hid (pre2.map (·.1) = rowsL c w y ++ rowL c y (x + 1)) := by rw [hrs.out, if_neg (by omega)]; exact hpre2'.out
            clear hz hrs
            gi_wp2
            refine ⟨fun _ _ => trivial, ?_⟩
            gi_wp2
            go_roundw
            case rel => exact ⟨x + 1, pre2, by omega, by go_num, hpn.out, hJ3'.out, hP3'.out⟩
            case measure => simp [intOf]; omega
          · have hpn : ∀ q : LivePt w h c, q.1 = (y, x) → (pre2 ++ [q]).map (·.1) = rowsL c w y ++ rowL c y (x + 1) := fun q hq => by
              rw [hrs.out, if_pos hz, List.map_append, hpre2'.out, ← List.append_assoc]
              simp [hq]
            have hpn' := Lib.hid hpn
            have hlen : pre2.length < w * h := by
              have e1 : pre2.length = (pre2.map (·.1)).length := by simp
              have e2 := rowsL_len c w y
              have e3 := rowL_len c y x
              have e4 : (y + 1) * w ≤ h * w := Nat.mul_le_mul_right w (by omega)
              rw [hpre2'.out, List.length_append] at e1
              rw [Nat.add_mul] at e4
              rw [Nat.mul_comm w h]
              omega
            obtain ⟨fn, tmps, assign, body, hy, hR⟩ := hY'.out pre2 ⟨(y, x), hlt, hlx, hz⟩ w3 hJ3'.out hlen
            have hR' := Lib.hid hR
            dsimp only [encPt] at hy
            have hz1 : ((c y x : Int) == 0) = false := by rw [beq_eq_false_iff_ne]; omega
            have hz2 : ((c y x : Int) != 0) = true := by simp [bne, hz1]
            clear hpn hlen hR hrs
            generalize c y x = cv at hy hz1 hz2 ⊢
            gi_wp2_with fail
            refine hR'.out.mono ?_
            rintro e w4 (⟨rfl, hJ4, hk4⟩ | ⟨rfl, hJx4⟩)
            · have hJ4' := Lib.hid hJ4
              have hP4' := Lib.hid (hPk'.out _ _ hP3'.out hk4)
              clear hJ4 hk4
              gi_wp2
              go_roundw
              case rel => exact ⟨x + 1, _, by omega, by go_num, hpn'.out _ rfl, hJ4'.out, hP4'.out⟩
              case measure => simp [intOf]; omega
            · have hJx4' := Lib.hid hJx4
              clear hJx4
              gi_wp2
              refine bodyPost_ret (results_none rfl _ _ _) rfl ?_
              exact ⟨⟨_, rfl⟩, .inr ⟨_, trivial, hJx4'.out⟩⟩
        · obtain rfl : w = x := by omega
          clear hlx d1 d2
          gi_wp2
          go_roundw
          case rel => exact ⟨y + 1, pre2, by omega, by go_num, by rw [rowsL_succ]; exact hpre2'.out, hJ2'.out, hP2'.out⟩
          case measure => simp [intOf]; omega
    · obtain rfl : h = y := by omega
      clear hlt d1 d2
      gi_wp2
      go_end0
      exact ⟨⟨_, rfl⟩, .inl ⟨pre, hpre'.out, hJ1'.out⟩⟩
set_option maxRecDepth 100000 in
set_option maxHeartbeats 4000000 in
theorem living64w (n : Nat) (hn : 1 ≤ n) (l bx fb s : Nat) (pk : Bool) (u : Value) (Pf : World → Prop) (Kp : World → World → Prop) (J Jx : List (LivePt w h c) → World → Prop) (hw : w ≤ 65536) (hh : h ≤ 65536)
    (hY : ∀ pre x W, J pre W → pre.length < w * h → YieldAt Fence.wide (n - 1) Tryz.prog l (encPt x) W fun e W' =>
      (e = .returned (.bool true) ∧ J (pre ++ [x]) W' ∧ Kp W W') ∨ (e = .returned (.bool false) ∧ Jx (pre ++ [x]) W'))
    (hbx : ∀ W, Pf W → W.cell? ⟨bx, 0, none⟩ = some (.pointer (some ⟨fb, 0, none⟩)) ∧ FBlk W fb w h s pk 147 u)
    (hget : ∀ W (x y : Nat), Pf W → x < w → y < h → Calls Tryz.prog 114 #[u, .int .i64 (x : Int), .int .i64 (y : Int)] W fun e w' => e = .returned (.int .u8 ((c y x : Nat) : Int)) ∧ Below W.heap.size W w')
    (hPf : ∀ W W', Pf W → Below W.heap.size W W' → Pf W') (hPk : ∀ W W', Pf W → Kp W W' → Pf W') (hJ : ∀ pre W W', J pre W → Below W.heap.size W W' → J pre W')
    (W : World) (h0 : J [] W) (hp : Pf W) :
    CallsIn Fence.wide n Tryz.prog 66 #[.func (.yield l) #[] #[], .pointer (some ⟨bx, 0, none⟩)] W fun e W' => (∃ v, e = .returned v) ∧
      ((∃ xs, AllCome w h c xs ∧ J xs W') ∨ (∃ pre, True ∧ Jx pre W')) := by
  refine callsIn_of_wp Tryz.func66 rfl trivial ?_ rfl
  simp only [Tryz.ntmps66, List.size_toArray, List.length_cons, List.length_nil, Nat.reduceAdd, Nat.reduceSub, Array.replicate_succ, Array.replicate_zero, List.push_toArray, List.append_toArray, List.nil_append, List.cons_append]
  have K1 := Lib.hid (none33 (hbx W hp).2)
  have c1 := (hbx W hp).1
  have c2 : W.cell? ⟨fb, 1, none⟩ = some (.int .i64 (h : Int)) := (hbx W hp).2.cell rfl
  have hY' := Lib.hid hY
  have hbx' := Lib.hid hbx
  have hget' := Lib.hid hget
  have hPf' := Lib.hid hPf
  have hPk' := Lib.hid hPk
  have hJ' := Lib.hid hJ
  have h0' := Lib.hid h0
  have hp' := Lib.hid hp
  clear hY hbx hget hPf hPk hJ h0 hp
  gi_wp2_with fail
  refine ⟨trivial, callsIn_wide.2 ((K1.out).mono ?_)⟩
  rintro e w' ⟨rfl, hw'⟩
  subst w'
  gi_wp2
  clear c1 c2 K1
  gi_loopw [13] (fun i wr => LvRel Pf J i wr) (fun i _ => h - (intOf i).toNat)
  case atStart => exact ⟨0, [], by omega, by go_num, rfl, h0'.out, hp'.out⟩
  case round =>
    obtain ⟨y, pre, hy, rfl, hpre, hJ1, hP1⟩ := hrel
    have hpre' := Lib.hid hpre
    have hJ1' := Lib.hid hJ1
    have hP1' := Lib.hid hP1
    have d1 := (hbx'.out _ hP1).1
    have d2 : wr.cell? ⟨fb, 0, none⟩ = some (.int .i64 (w : Int)) := (hbx'.out _ hP1).2.cell rfl
    clear hpre hJ1 hP1
    by_cases hlt : y < h
    · gi_wp2
      clear d1 d2
      gi_loopw [21] (fun i wr => LvRel2 Pf J y i wr) (fun i _ => w - (intOf i).toNat)
      case atStart => exact ⟨0, pre, by omega, by go_num, by rw [rowL_zero, List.append_nil]; exact hpre'.out, hJ1'.out, hP1'.out⟩
      case round =>
        rename World => wx
        obtain ⟨x, pre2, hx, rfl, hpre2, hJ2, hP2⟩ := hrel
        have hpre2' := Lib.hid hpre2
        have hJ2' := Lib.hid hJ2
        have hP2' := Lib.hid hP2
        have d1 := (hbx'.out _ hP2).1
        have d2 : wx.cell? ⟨fb, 4, none⟩ = some (.iface 147 u) := (hbx'.out _ hP2).2.cell rfl
        clear hpre2 hJ2 hP2
        by_cases hlx : x < w
        · have KK := Lib.hid (hget'.out wx x y hP2'.out hlx hlt)
          have hm := meth_get122
          gi_wp2_with fail
          refine ⟨trivial, callsIn_wide.2 ((KK.out).mono ?_)⟩
          rintro e w3 ⟨rfl, hb⟩
          have hP3 := hPf'.out _ _ hP2'.out hb
          have hJ3 := hJ'.out _ _ _ hJ2'.out hb
          have hP3' := Lib.hid hP3
          have hJ3' := Lib.hid hJ3
          have hrs := Lib.hid (rowL_succ c y x)
          clear hb KK hm d1 d2 hP3 hJ3
          by_cases hz : c y x = 0
          · rw [hz]
            have hpn : Hid (pre2.map (·.1) = rowsL c w y ++ rowL c y (x + 1)) := by rw [hrs.out, if_neg (by omega)]; exact hpre2'.out
            clear hz hrs
            gi_wp2
            refine ⟨fun _ _ => trivial, ?_⟩
            gi_wp2
            go_roundw
            case rel => exact ⟨x + 1, pre2, by omega, by go_num, hpn.out, hJ3'.out, hP3'.out⟩
            case measure => simp [intOf]; omega
          · have hpn : ∀ q : LivePt w h c, q.1 = (y, x) → (pre2 ++ [q]).map (·.1) = rowsL c w y ++ rowL c y (x + 1) := fun q hq => by
              rw [hrs.out, if_pos hz, List.map_append, hpre2'.out, ← List.append_assoc]
              simp [hq]
            have hpn' := Lib.hid hpn
            have hlen : pre2.length < w * h := by
              have e1 : pre2.length = (pre2.map (·.1)).length := by simp
              have e2 := rowsL_len c w y
              have e3 := rowL_len c y x
              have e4 : (y + 1) * w ≤ h * w := Nat.mul_le_mul_right w (by omega)
              rw [hpre2'.out, List.length_append] at e1
              rw [Nat.add_mul] at e4
              rw [Nat.mul_comm w h]
              omega
            obtain ⟨fn, tmps, assign, body, hy, hR⟩ := hY'.out pre2 ⟨(y, x), hlt, hlx, hz⟩ w3 hJ3'.out hlen
            have hR' := Lib.hid hR
            dsimp only [encPt] at hy
            have hz1 : ((c y x : Int) == 0) = false := by rw [beq_eq_false_iff_ne]; omega
            have hz2 : ((c y x : Int) != 0) = true := by simp [bne, hz1]
            clear hpn hlen hR hrs
            generalize c y x = cv at hy hz1 hz2 ⊢
            gi_wp2_with fail
            refine hR'.out.mono ?_
            rintro e w4 (⟨rfl, hJ4, hk4⟩ | ⟨rfl, hJx4⟩)
            · have hJ4' := Lib.hid hJ4
              have hP4' := Lib.hid (hPk'.out _ _ hP3'.out hk4)
              clear hJ4 hk4
              gi_wp2
              go_roundw
              case rel => exact ⟨x + 1, _, by omega, by go_num, hpn'.out _ rfl, hJ4'.out, hP4'.out⟩
              case measure => simp [intOf]; omega
            · have hJx4' := Lib.hid hJx4
              clear hJx4
              gi_wp2
              refine bodyPost_ret (results_none rfl _ _ _) rfl ?_
              exact ⟨⟨_, rfl⟩, .inr ⟨_, trivial, hJx4'.out⟩⟩
        · obtain rfl : w = x := by omega
          clear hlx d1 d2
          gi_wp2
          go_roundw
          case rel => exact ⟨y + 1, pre2, by omega, by go_num, by rw [rowsL_succ]; exact hpre2'.out, hJ2'.out, hP2'.out⟩
          case measure => simp [intOf]; omega
    · obtain rfl : h = y := by omega
      clear hlt d1 d2
      gi_wp2
      go_end0
      exact ⟨⟨_, rfl⟩, .inl ⟨pre, hpre'.out, hJ1'.out⟩⟩
end
end Go.Proofs.YtcbhbojplcddkaaGreatDoor
