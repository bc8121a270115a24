import Derived.Test.YtcbhbojplcddkaaGreatDoorZFdB
import Derived.Test.YtcbhbojplcddkaaGreatDoorZPkC
namespace Go.Proofs.YtcbhbojplcddkaaGreatDoor
open Go.RowKit Go.RowBits
set_option linter.unusedSimpArgs false
set_option linter.unusedVariables false

/-! ### Stores of bits -/
def rowPair (w : Nat) (gs cs : Nat → Nat) (L y : Nat) : List Value := [.int .i64 (w : Int), .slice (some ⟨gs y, 0, none⟩) L (cs y)]
def rowPairs (w : Nat) (gs cs : Nat → Nat) (L h : Nat) : List Value := (List.range h).flatMap (rowPair w gs cs L)
theorem rowPairs_len (w : Nat) (gs cs : Nat → Nat) (L h : Nat) : (rowPairs w gs cs L h).length = h * 2 := by
  induction h with
  | zero => simp [rowPairs]
  | succ h ih =>
    unfold rowPairs at *
    rw [List.range_succ, List.flatMap_append, List.length_append, ih]
    simp [rowPair]
    omega
theorem rowPairs_get (w : Nat) (gs cs : Nat → Nat) (L : Nat) {h y : Nat} (hy : y < h) : (rowPairs w gs cs L h)[y * 2]? = some (.int .i64 (w : Int)) ∧ (rowPairs w gs cs L h)[y * 2 + 1]? = some (.slice (some ⟨gs y, 0, none⟩) L (cs y)) := by
  induction h with
  | zero => omega
  | succ h ih =>
    have hl := rowPairs_len w gs cs L h
    have e : rowPairs w gs cs L (h + 1) = rowPairs w gs cs L h ++ rowPair w gs cs L h := by
      unfold rowPairs
      rw [List.range_succ, List.flatMap_append]
      simp
    rw [e]
    by_cases hyh : y < h
    · rw [List.getElem?_append_left (by omega), List.getElem?_append_left (by omega)]
      exact ih hyh
    · obtain rfl : y = h := by omega
      rw [List.getElem?_append_right (by omega), List.getElem?_append_right (by omega), hl]
      refine ⟨by simp [rowPair], ?_⟩
      rw [show y * 2 + 1 - y * 2 = 1 from by omega]
      rfl
/-- The words of the rows are `ws y`. -/
structure StW (B : Nat) (W : World) (gr cap w : Nat) (ws : List (List Nat)) (gs cs : Nat → Nat) : Prop where
  rows : W.ownsRow B 58 2 (.slice (some ⟨gr, 0, none⟩) ws.length cap) ws.length (rowPairs w gs cs ((w + 63) / 64) ws.length)
  row : ∀ y, y < ws.length → W.ownsRow B 61 1 (.slice (some ⟨gs y, 0, none⟩) ((w + 63) / 64) (cs y)) ((w + 63) / 64) ((ws.getD y []).map wv)
  good : ∀ y, y < ws.length → RowGood w (ws.getD y [])
  sep : ∀ y z, y < ws.length → z < ws.length → y ≠ z → gs y ≠ gs z
  pos : 0 < ws.length ∧ 0 < w
section
variable {B : Nat} {W W' : World} {gr cap w : Nat} {ws : List (List Nat)} {gs cs : Nat → Nat}
theorem StW.kept (h : StW B W gr cap w ws gs cs) (hb : Below W.heap.size W W') : StW B W' gr cap w ws gs cs :=
  ⟨own_below h.rows hb, fun y hy => own_below (h.row y hy) hb, h.good, h.sep, h.pos⟩
theorem StW.rowCell (h : StW B W gr cap w ws gs cs) {y : Nat} (hy : y < ws.length) : W.cell? ⟨gr, y * 2, none⟩ = some (.int .i64 (w : Int)) ∧ W.cell? ⟨gr, y * 2 + 1, none⟩ = some (.slice (some ⟨gs y, 0, none⟩) ((w + 63) / 64) (cs y)) := by
  have hg := rowPairs_get w gs cs ((w + 63) / 64) hy
  rw [h.rows.cellAt (y * 2) (by omega), h.rows.cellAt (y * 2 + 1) (by omega)]
  exact hg
theorem StW.cell (h : StW B W gr cap w ws gs cs) {y j : Nat} (hy : y < ws.length) (hj : j < (w + 63) / 64) : W.cell? ⟨gs y, j, none⟩ = some (.int .u64 (((ws.getD y []).getD j 0 : Nat) : Int)) := by
  have hl := (h.good y hy).len
  rw [(h.row y hy).cellAt j (by omega)]
  have : j < (ws.getD y []).length := by omega
  generalize ws.getD y [] = r at *
  simp [this, wv]
theorem StW.frozen (h : StW B W gr cap w ws gs cs) {y : Nat} (hy : y < ws.length) (x : Nat) : W.frozen? ⟨gs y, x, none⟩ = false := by
  obtain ⟨_, _, cur, h2, _⟩ := own_slice (h.row y hy)
  exact frozen_of_row W _ x cur 61 h2
set_option maxHeartbeats 2000000 in
theorem get100 (h : StW B W gr cap w ws gs cs) {x y : Nat} (hx : x < w) (hw : w ≤ 65536) (hy : y < ws.length) (hh : ws.length ≤ 65536) : Calls Tryz.prog 114 #[.agg #[.slice (some ⟨gr, 0, none⟩) ws.length cap], .int .i64 (x : Int), .int .i64 (y : Int)] W fun e w' => e = .returned (.int .u8 (((bitw (ws.getD y []) x).toNat : Nat) : Int)) ∧ Below W.heap.size W w' := by
  obtain ⟨c0, c1⟩ := h.rowCell hy
  have c2 := h.cell (j := x / 64) hy (by omega)
  have hz1 : gr < W.heap.size := World.block_lt_of_cell? W _ c1
  have hz2 : gs y < W.heap.size := World.block_lt_of_cell? W _ c2
  have hlen : (x : Int) / 64 < (((w + 63) / 64 : Nat) : Int) := by omega
  have hb : bitw (ws.getD y []) x = decide ((ws.getD y []).getD (x / 64) 0 / 2 ^ (x % 64) % 2 = 1) := by unfold bitw; rw [Nat.testBit_eq_decide_div_mod_eq]
  have hqU : (ws.getD y []).getD (x / 64) 0 < U := (h.good y hy).w64 _
  have hval : Hid (bits .and .u64 ((((ws.getD y []).getD (x / 64) 0 : Nat) : Int) / 2 ^ (x % 64)) 1 % 256 = (((bitw (ws.getD y []) x).toNat : Nat) : Int)) := by
    show _ = _
    rw [hb]
    generalize (ws.getD y []).getD (x / 64) 0 = q at *
    have e : ((q : Int) / 2 ^ (x % 64)) = ((q / 2 ^ (x % 64) : Nat) : Int) := by simp
    have hle : q / 2 ^ (x % 64) ≤ q := Nat.div_le_self _ _
    rw [e, show (1 : Int) = ((1 : Nat) : Int) from rfl, u64_and_nat _ _ (by unfold U at hqU; omega) (by omega), Nat.and_one_is_mod]
    generalize q / 2 ^ (x % 64) = z
    by_cases hz : z % 2 = 1
    · rw [decide_eq_true hz, hz]; rfl
    · rw [decide_eq_false hz, show z % 2 = 0 by omega]; rfl
  clear hb hqU
  generalize (ws.getD y []).getD (x / 64) 0 = q at *
  generalize bitw (ws.getD y []) x = bq at *
  generalize gs y = gy at *
  generalize cs y = cy at *
  generalize (w + 63) / 64 = L at *
  have e1 : ((x : Int) / 64).toNat = x / 64 := by omega
  clear h
  go_enter Tryz.func114, Tryz.ntmps114
  go_wp2
  go_ret
  exact ⟨congrArg (fun z => Ending.returned (.int .u8 z)) hval.out, below_new _⟩
/-- A word with one bit made another. -/
def setW (q k s : Nat) : Nat := (q &&& (18446744073709551615 - 2 ^ k)) ||| (s * 2 ^ k)
theorem pow64 {k : Nat} (hk : k < 64) : (2 : Nat) ^ k < 18446744073709551616 ∧ 1 ≤ (2 : Nat) ^ k := ⟨by
  have : (2 : Nat) ^ k ≤ 2 ^ 63 := Nat.pow_le_pow_right (by decide) (by omega)
  have e : (2 : Nat) ^ 63 = 9223372036854775808 := by decide
  omega, Nat.one_le_two_pow⟩
theorem bit_pow {s k i : Nat} (hs : s < 2) : (s * 2 ^ k).testBit i = (decide (i = k) && decide (s = 1)) := by
  obtain rfl | rfl : s = 0 ∨ s = 1 := by omega
  · simp
  · rw [Nat.one_mul, Nat.testBit_two_pow]
    by_cases h : k = i
    · subst h; simp
    · have : ¬ i = k := fun e => h e.symm
      simp [h, this]
theorem setW_lt {q k s : Nat} (hq : q < U) (hk : k < 64) (hs : s < 2) : setW q k s < U := by
  unfold setW
  refine or_lt_U (and_lt_U hq) ?_
  have := pow64 hk
  obtain rfl | rfl : s = 0 ∨ s = 1 := by omega
  · unfold U; omega
  · unfold U; omega
theorem setW_bit {q k s i : Nat} (hq : q < U) (hk : k < 64) (hs : s < 2) (hi : i < 64) : (setW q k s).testBit i = if i = k then decide (s = 1) else q.testBit i := by
  unfold setW
  have hp := pow64 hk
  have hn : (18446744073709551615 - 2 ^ k).testBit i = !decide (i = k) := by
    have := not_bit (w := 2 ^ k) (j := i) (by unfold U; omega) hi
    rw [show U - 1 - 2 ^ k = 18446744073709551615 - 2 ^ k from by unfold U; omega] at this
    rw [this, Nat.testBit_two_pow]
    by_cases h : k = i
    · subst h; simp
    · have : ¬ i = k := fun e => h e.symm
      simp [h, this]
  rw [Nat.testBit_or, Nat.testBit_and, hn, bit_pow hs]
  by_cases h : i = k
  · subst h; simp
  · simp [h]
def setRow (l : List Nat) (x s : Nat) : List Nat := l.set (x / 64) (setW (l.getD (x / 64) 0) (x % 64) s)
theorem setRow_good {n x s : Nat} {l : List Nat} (h : RowGood n l) (hx : x < n) (hs : s < 2) : RowGood n (setRow l x s) ∧ ∀ i, i < n → bitw (setRow l x s) i = if i = x then decide (s = 1) else bitw l i := by
  have hl := h.len
  have hj : x / 64 < l.length := by omega
  have hw : W64 (setRow l x s) := fun j => by
    unfold setRow
    by_cases e : x / 64 = j
    · subst e; rw [getD_set_self hj]; exact setW_lt (h.w64 _) (by omega) hs
    · rw [Go.RowBits.getD_set_ne e]; exact h.w64 j
  have hb : ∀ i, i < 64 * l.length → bitw (setRow l x s) i = if i = x then decide (s = 1) else bitw l i := fun i hi => by
    unfold bitw setRow
    by_cases e : x / 64 = i / 64
    · rw [← e, getD_set_self hj, setW_bit (h.w64 _) (by omega) hs (by omega)]
      by_cases e2 : i = x
      · rw [if_pos e2, if_pos (by rw [e2])]
      · rw [if_neg e2, if_neg (by omega)]
    · rw [Go.RowBits.getD_set_ne e, if_neg (by intro q; exact e (by rw [q]))]
  refine ⟨(good_iff (by unfold setRow; simpa using hl) hw).2 fun i h1 h2 => ?_, fun i hi => hb i (by omega)⟩
  have h3 : i < 64 * l.length := by unfold setRow at h2; simpa using h2
  rw [hb i h3, if_neg (by omega)]
  exact (good_iff hl h.w64).1 h i h1 h3
theorem own_setSameW {W : World} {B g n cap x s : Nat} {l : List Nat} (h : W.ownsRow B 61 1 (.slice (some ⟨g, 0, none⟩) n cap) n (l.map wv)) (hx : x < n) : (W.setCell ⟨g, x, none⟩ (.int .u64 ((s : Nat) : Int))).ownsRow B 61 1 (.slice (some ⟨g, 0, none⟩) n cap) n ((l.set x s).map wv) := by
  obtain ⟨h1, h2, cur, h3, h4, h5⟩ := own_slice h
  have hm : cap ≤ maxLen := by
    rcases h.2 with ⟨e1, _⟩ | ⟨g', cp, cur', e1, _, _, _, hm, _⟩
    · cases e1
    · injection e1 with _ _ e3
      omega
  refine ⟨by have := h.1; simpa using this, .inr ⟨g, cap, cur.setIfInBounds x (.int .u64 ((s : Nat) : Int)), rfl, h1, heap_setCell_same W g x cur 61 _ h3, h2, hm, by simpa using h4, ?_⟩⟩
  rw [List.map_set, ← h5]
  simp [List.take_set, wv]
def setBits (ws : List (List Nat)) (x y s : Nat) : List (List Nat) := ws.set y (setRow (ws.getD y []) x s)
theorem setBits_len (ws : List (List Nat)) (x y s : Nat) : (setBits ws x y s).length = ws.length := by unfold setBits; simp
theorem setBits_get (ws : List (List Nat)) (x s : Nat) {y z : Nat} (hz : z < ws.length) : (setBits ws x y s).getD z [] = if y = z then setRow (ws.getD y []) x s else ws.getD z [] := by
  unfold setBits
  by_cases e : y = z
  · subst e; rw [if_pos rfl]; simp [hz]
  · rw [if_neg e]; simp [List.getD, List.getElem?_set, e]
theorem StW.set (h : StW B W gr cap w ws gs cs) {x y s : Nat} (hx : x < w) (hy : y < ws.length) (hs : s < 2) (A : Nat) : StW B ((W.setCell ⟨gs y, x / 64, none⟩ (.int .u64 ((A : Nat) : Int))).setCell ⟨gs y, x / 64, none⟩ (.int .u64 ((setW ((ws.getD y []).getD (x / 64) 0) (x % 64) s : Nat) : Int))) gr cap w (setBits ws x y s) gs cs := by
  have hgr : gr ≠ gs y := fun e => by
    obtain ⟨_, _, c1, q1, _⟩ := own_slice h.rows
    obtain ⟨_, _, c2, q2, _⟩ := own_slice (h.row y hy)
    rw [e, q2] at q1
    injection q1 with q1
    injection q1 with _ q1 _
    cases q1
  have hne1 : ∀ c : Nat, (Value.slice (some ⟨gr, 0, none⟩) ws.length c).ownBlock ≠ some (gs y) := fun c e => hgr (by injection e)
  refine ⟨?_, fun z hz => ?_, fun z hz => ?_, fun a b ha hb => h.sep a b (by rwa [setBits_len] at ha) (by rwa [setBits_len] at hb), by rw [setBits_len]; exact h.pos⟩
  · rw [setBits_len]
    exact own_other (own_other h.rows (hne1 cap) _) (hne1 cap) _
  · rw [setBits_len] at hz
    rw [setBits_get _ _ _ hz]
    by_cases e : y = z
    · subst e
      rw [if_pos rfl]
      have hj : x / 64 < (w + 63) / 64 := by omega
      have h2 := own_setSameW (s := setW ((ws.getD y []).getD (x / 64) 0) (x % 64) s) (own_setSameW (s := A) (h.row y hy) hj) hj
      rw [List.set_set] at h2
      exact h2
    · rw [if_neg e]
      have hne2 : (Value.slice (some ⟨gs z, 0, none⟩) ((w + 63) / 64) (cs z)).ownBlock ≠ some (gs y) := fun q => h.sep z y hz hy (fun e' => e e'.symm) (by injection q)
      exact own_other (own_other (h.row z hz) hne2 _) hne2 _
  · rw [setBits_len] at hz
    rw [setBits_get _ _ _ hz]
    by_cases e : y = z
    · subst e
      rw [if_pos rfl]
      exact (setRow_good (h.good y hy) hx hs).1
    · rw [if_neg e]
      exact h.good z hz
set_option maxHeartbeats 2000000 in
theorem set101 (h : StW B W gr cap w ws gs cs) {x y s : Nat} (hx : x < w) (hw : w ≤ 65536) (hy : y < ws.length) (hh : ws.length ≤ 65536) (hs : s < 2) : Calls Tryz.prog 115 #[.agg #[.slice (some ⟨gr, 0, none⟩) ws.length cap], .int .i64 (x : Int), .int .i64 (y : Int), .int .u8 (s : Int)] W fun e w' => (∃ v, e = .returned v) ∧ StW B w' gr cap w (setBits ws x y s) gs cs ∧ W.grownBy w' (some (gs y)) := by
  obtain ⟨c0, c1⟩ := h.rowCell hy
  have c2 := h.cell (j := x / 64) hy (by omega)
  have c3 := h.frozen hy (x / 64)
  have hz1 : gr < W.heap.size := World.block_lt_of_cell? W _ c1
  have hz2 : gs y < W.heap.size := World.block_lt_of_cell? W _ c2
  have hlen : (x : Int) / 64 < (((w + 63) / 64 : Nat) : Int) := by omega
  have e1 : ((x : Int) / 64).toNat = x / 64 := by omega
  have hqU : (ws.getD y []).getD (x / 64) 0 < 18446744073709551616 := by have := (h.good y hy).w64 (x / 64); unfold U at this; exact this
  have hp := pow64 (k := x % 64) (by omega)
  have hw1 : IntKind.u64.wrap ((2 : Int) ^ (x % 64)) = ((2 ^ (x % 64) : Nat) : Int) := by
    rw [show ((2 : Int) ^ (x % 64)) = ((2 ^ (x % 64) : Nat) : Int) from by simp, IntKind.wrap_u64]
    generalize 2 ^ (x % 64) = z at *
    omega
  have hw2 : IntKind.u64.wrap ((s : Int) * (2 : Int) ^ (x % 64)) = ((s * 2 ^ (x % 64) : Nat) : Int) := by
    rw [show ((s : Int) * (2 : Int) ^ (x % 64)) = ((s * 2 ^ (x % 64) : Nat) : Int) from by simp, IntKind.wrap_u64]
    obtain rfl | rfl : s = 0 ∨ s = 1 := by omega
    · simp
    · rw [Nat.one_mul]
      generalize 2 ^ (x % 64) = z at *
      omega
  have hA : bits .andNot .u64 (((ws.getD y []).getD (x / 64) 0 : Nat) : Int) (IntKind.u64.wrap ((2 : Int) ^ (x % 64))) = (((ws.getD y []).getD (x / 64) 0 &&& (18446744073709551615 - 2 ^ (x % 64)) : Nat) : Int) := by
    rw [hw1]
    exact u64_andNot_nat _ _ hqU hp.1
  have hBv : Hid (bits .or .u64 (bits .andNot .u64 (((ws.getD y []).getD (x / 64) 0 : Nat) : Int) (IntKind.u64.wrap ((2 : Int) ^ (x % 64)))) (IntKind.u64.wrap ((s : Int) * (2 : Int) ^ (x % 64))) = ((setW ((ws.getD y []).getD (x / 64) 0) (x % 64) s : Nat) : Int)) := by
    show _ = _
    rw [hA, hw2]
    unfold setW
    refine u64_or_nat _ _ ?_ ?_
    · have := Nat.and_le_left (n := (ws.getD y []).getD (x / 64) 0) (m := 18446744073709551615 - 2 ^ (x % 64))
      omega
    · obtain rfl | rfl : s = 0 ∨ s = 1 := by omega
      · omega
      · rw [Nat.one_mul]; exact hp.1
  have hA' := Lib.hid hA
  have FIN : Hid (∀ (a b : Int) (o : Obj), a = (((ws.getD y []).getD (x / 64) 0 &&& (18446744073709551615 - 2 ^ (x % 64)) : Nat) : Int) → b = ((setW ((ws.getD y []).getD (x / 64) 0) (x % 64) s : Nat) : Int) →
      StW B ((((W.setCell ⟨gs y, x / 64, none⟩ (.int .u64 a)).setCell ⟨gs y, x / 64, none⟩ (.int .u64 b)).alloc o).drew.drew) gr cap w (setBits ws x y s) gs cs ∧ W.grownBy ((((W.setCell ⟨gs y, x / 64, none⟩ (.int .u64 a)).setCell ⟨gs y, x / 64, none⟩ (.int .u64 b)).alloc o).drew.drew) (some (gs y))) := fun a b o ha hb => by
    subst ha hb
    have hbe := ((below_new (w := (W.setCell ⟨gs y, x / 64, none⟩ (.int .u64 (((ws.getD y []).getD (x / 64) 0 &&& (18446744073709551615 - 2 ^ (x % 64)) : Nat) : Int))).setCell ⟨gs y, x / 64, none⟩ (.int .u64 ((setW ((ws.getD y []).getD (x / 64) 0) (x % 64) s : Nat) : Int))) o).drew).drew
    refine ⟨(h.set hx hy hs _).kept hbe, ((grown_setCell W (gs y) (x / 64) _).trans (grown_setCell _ (gs y) (x / 64) _)).trans ⟨hbe.os, hbe.tape, hbe.output, hbe.size, fun k hk _ => hbe.block k hk⟩⟩
  generalize (ws.getD y []).getD (x / 64) 0 = q at *
  generalize gs y = gy at *
  generalize cs y = cy at *
  generalize (w + 63) / 64 = L at *
  clear h hA hw1 hw2 hp hqU
  go_enter Tryz.func115, Tryz.ntmps115
  go_wp2
  go_region
  go_wp2
  go_region
  go_wp2
  go_end0
  exact ⟨⟨_, rfl⟩, FIN.out _ _ _ hA'.out hBv.out⟩
end
end Go.Proofs.YtcbhbojplcddkaaGreatDoor
