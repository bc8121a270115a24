import Derived.Test.YtjomgjlicfoehaaHoodB
import Derived.Test.YtjomgjlicfoehaaIsoM
import Derived.Deep.QuietTactic
import Derived.BigQuiet
namespace Go.Proofs.Ytjomgjlicfoehaa
open Go.RowKit
set_option linter.unusedSimpArgs false
set_option linter.unusedVariables false

/-- The slice v reads as the places l. -/
def HasPts (w : World) (v : Value) (l : List (Int × Int)) : Prop :=
  ∃ (ad : Option Addr) (cap : Nat), v = .slice ad l.length cap ∧ ∀ j, j < l.length → ∃ g, ad = some ⟨g, 0, none⟩ ∧
    w.cell? ⟨g, j * 2, none⟩ = some (.int .i64 (l.getD j (0, 0)).1) ∧ w.cell? ⟨g, j * 2 + 1, none⟩ = some (.int .i64 (l.getD j (0, 0)).2)
/-- The slice v reads as the numbers l. -/
def HasInts (w : World) (v : Value) (l : List Int) : Prop :=
  ∃ (ad : Option Addr) (cap : Nat), v = .slice ad l.length cap ∧ ∀ j, j < l.length → ∃ g, ad = some ⟨g, 0, none⟩ ∧ w.cell? ⟨g, j, none⟩ = some (.int .i64 (l.getD j 0))

theorem HasPts.nil (w : World) : HasPts w (.slice none 0 0) [] := ⟨none, 0, rfl, fun j hj => by simp at hj⟩
theorem HasInts.nil (w : World) : HasInts w (.slice none 0 0) [] := ⟨none, 0, rfl, fun j hj => by simp at hj⟩
theorem HasPts.kept {w w' : World} {v : Value} {l : List (Int × Int)} (h : HasPts w v l) (hb : Below w.heap.size w w') : HasPts w' v l := by
  obtain ⟨ad, cap, hv, hc⟩ := h
  refine ⟨ad, cap, hv, fun j hj => ?_⟩
  obtain ⟨g, hg, c1, c2⟩ := hc j hj
  exact ⟨g, hg, cell_kept hb c1, cell_kept hb c2⟩
theorem HasInts.kept {w w' : World} {v : Value} {l : List Int} (h : HasInts w v l) (hb : Below w.heap.size w w') : HasInts w' v l := by
  obtain ⟨ad, cap, hv, hc⟩ := h
  refine ⟨ad, cap, hv, fun j hj => ?_⟩
  obtain ⟨g, hg, c1⟩ := hc j hj
  exact ⟨g, hg, cell_kept hb c1⟩

theorem ptCells_get (l : List (Int × Int)) : ∀ j, j < l.length → (ptCells l)[j * 2]? = some (.int .i64 (l.getD j (0, 0)).1) ∧ (ptCells l)[j * 2 + 1]? = some (.int .i64 (l.getD j (0, 0)).2) := by
  induction l with
  | nil => intro j hj; simp at hj
  | cons p l ih =>
    intro j hj
    have e : ptCells (p :: l) = .int .i64 p.1 :: .int .i64 p.2 :: ptCells l := rfl
    cases j with
    | zero => rw [e]; exact ⟨rfl, rfl⟩
    | succ j =>
      have := ih j (by simpa using hj)
      rw [e, show (j + 1) * 2 = j * 2 + 1 + 1 from by omega]
      simpa using this

theorem HasPts.own {w : World} {base : Nat} {v : Value} {l : List (Int × Int)} (h : w.ownsRow base 30 2 v l.length (ptCells l)) : HasPts w v l := by
  rcases h.2 with ⟨hv, hn⟩ | ⟨g, cap, cur, hv, hr⟩
  · exact ⟨none, 0, by rw [hv, hn], fun j hj => by omega⟩
  · subst hv
    refine ⟨_, cap, rfl, fun j hj => ⟨g, rfl, ?_, ?_⟩⟩
    · rw [h.cellAt (j * 2) (by omega)]; exact (ptCells_get l j hj).1
    · rw [h.cellAt (j * 2 + 1) (by omega)]; exact (ptCells_get l j hj).2
theorem HasInts.own {w : World} {base : Nat} {v : Value} {l : List Int} (h : w.ownsRow base 3 1 v l.length (l.map (Value.int .i64))) : HasInts w v l := by
  rcases h.2 with ⟨hv, hn⟩ | ⟨g, cap, cur, hv, hr⟩
  · exact ⟨none, 0, by rw [hv, hn], fun j hj => by omega⟩
  · subst hv
    refine ⟨_, cap, rfl, fun j hj => ⟨g, rfl, ?_⟩⟩
    rw [h.cellAt j (by omega)]
    simp [hj]

theorem run_neq_pt (x y u v : Int) (w : World) : (binOp .neq 30 (.agg #[.int .i64 x, .int .i64 y]) (.agg #[.int .i64 u, .int .i64 v])).run Try.prog w = .ok (.bool (!(x == u && y == v))) w := by
  simp only [binOp]
  simp [Op.equal, Op.maxDepth, eq_pt]

set_option maxHeartbeats 1000000 in
theorem same_points {w : World} {v v' : Value} {l : List (Int × Int)} (hl : l.length ≤ 1000) (h : HasPts w v l) (h' : HasPts w v' l) :
    Calls Try.prog 23 #[v, v'] w fun e w' => e = .returned (.bool true) ∧ ∃ m, w' = w.drewN m := by
  obtain ⟨ad, cap, rfl, hc⟩ := h
  obtain ⟨ad', cap', rfl, hc'⟩ := h'
  generalize hn : l.length = n at *
  have C := Lib.hid hc
  have C' := Lib.hid hc'
  clear hc hc' hn
  go_enter Try.func23, Try.ntmps23
  go_wp2
  go_loopw [5] (fun i wr => ∃ k m : Nat, k ≤ n ∧ i = .int .i64 (k : Int) ∧ wr = w.drewN m) (fun i _ => n - (intOf i).toNat)
  case atStart => exact ⟨0, 0, by omega, by go_num, rfl⟩
  case round =>
    obtain ⟨k, m, hk, rfl, rfl⟩ := hrel
    by_cases hlt : k < n
    · obtain ⟨g, rfl, c1, c2⟩ := C.out k hlt
      obtain ⟨g', rfl, c3, c4⟩ := C'.out k hlt
      generalize (l.getD k (0, 0)).1 = X at *
      generalize (l.getD k (0, 0)).2 = Y at *
      have he : ∀ W, (binOp .neq 30 (.agg #[.int .i64 X, .int .i64 Y]) (.agg #[.int .i64 X, .int .i64 Y])).run Try.prog W = .ok (.bool false) W := fun W => by rw [run_neq_pt]; simp
      go_wp2
      go_quiet (fail)
      go_wp2
      exact ⟨⟨k + 1, m + nq, by omega, by go_num, rfl⟩, by simp [intOf]; omega⟩
    · go_wp2
      go_ret
      exact ⟨rfl, m, rfl⟩

set_option maxHeartbeats 1000000 in
theorem same_ints {w : World} {v v' : Value} {l : List Int} (hl : l.length ≤ 1000) (h : HasInts w v l) (h' : HasInts w v' l) :
    Calls Try.prog 54 #[v, v'] w fun e w' => e = .returned (.bool true) ∧ ∃ m, w' = w.drewN m := by
  obtain ⟨ad, cap, rfl, hc⟩ := h
  obtain ⟨ad', cap', rfl, hc'⟩ := h'
  generalize hn : l.length = n at *
  have C := Lib.hid hc
  have C' := Lib.hid hc'
  clear hc hc' hn
  go_enter Try.func54, Try.ntmps54
  go_wp2
  go_loopw [5] (fun i wr => ∃ k m : Nat, k ≤ n ∧ i = .int .i64 (k : Int) ∧ wr = w.drewN m) (fun i _ => n - (intOf i).toNat)
  case atStart => exact ⟨0, 0, by omega, by go_num, rfl⟩
  case round =>
    obtain ⟨k, m, hk, rfl, rfl⟩ := hrel
    by_cases hlt : k < n
    · obtain ⟨g, rfl, c1⟩ := C.out k hlt
      obtain ⟨g', rfl, c3⟩ := C'.out k hlt
      generalize l.getD k 0 = X at *
      go_wp2
      go_quiet (fail)
      go_wp2
      exact ⟨⟨k + 1, m + nq, by omega, by go_num, rfl⟩, by simp [intOf]; omega⟩
    · go_wp2
      go_ret
      exact ⟨rfl, m, rfl⟩

/-- The number of a place among places; -1: none. -/
def whereI (l : List (Int × Int)) (p : Int × Int) : Int := if l.idxOf p < l.length then (l.idxOf p : Int) else -1

set_option maxHeartbeats 1000000 in
theorem where_any {w : World} {v : Value} {l : List (Int × Int)} (x y : Int) (hl : l.length ≤ 1000) (h : HasPts w v l) :
    Calls Try.prog 50 #[v, .agg #[.int .i64 x, .int .i64 y]] w fun e w' => e = .returned (.int .i64 (whereI l (x, y))) ∧ Below w.heap.size w w' := by
  obtain ⟨ad, cap, rfl, hc⟩ := h
  have hix : ∀ k, k ≤ l.idxOf (x, y) → k < l.length → (l.getD k (0, 0) = (x, y) ↔ k = l.idxOf (x, y)) := by
    intro k hk hk'
    rw [List.getD_eq_getElem?_getD, List.getElem?_eq_getElem hk', Option.getD_some]
    constructor
    · intro e
      by_cases h' : k = l.idxOf (x, y)
      · exact h'
      · exfalso
        have hx := List.not_of_lt_findIdx (p := (· == (x, y))) (xs := l) (i := k) (show k < l.findIdx (· == (x, y)) from Nat.lt_of_le_of_ne hk h')
        simp [e] at hx
    · intro e
      subst e
      simp
  have hle : l.idxOf (x, y) ≤ l.length := List.idxOf_le_length
  have hwh : whereI l (x, y) = if l.idxOf (x, y) < l.length then (l.idxOf (x, y) : Int) else -1 := rfl
  generalize whereI l (x, y) = R at *
  generalize l.idxOf (x, y) = q at *
  generalize hn : l.length = n at *
  have C := Lib.hid hc
  have HI := Lib.hid hix
  have HW := Lib.hid hwh
  clear hc hix hwh hn
  go_enter Try.func50, Try.ntmps50
  go_wp2
  go_loopw [5] (fun i wr => ∃ k m : Nat, k ≤ q ∧ i = .int .i64 (k : Int) ∧ wr = (w.alloc (.cells #[.int .i64 x, .int .i64 y] 30)).drewN m) (fun i _ => n + 1 - (intOf i).toNat)
  case atStart => exact ⟨0, 0, by omega, by go_num, rfl⟩
  case round =>
    obtain ⟨k, m, hk, rfl, rfl⟩ := hrel
    by_cases hlt : k < n
    · obtain ⟨g, rfl, c1, c2⟩ := C.out k hlt
      have hg := World.block_lt_of_cell? w _ c1
      have hne : g ≠ w.heap.size := by have : g < w.heap.size := hg; omega
      have hk2 := HI.out k hk hlt
      generalize hX : (l.getD k (0, 0)).1 = X at *
      generalize hY : (l.getD k (0, 0)).2 = Y at *
      have hk3 : (X = x ∧ Y = y) ↔ k = q := by
        rw [← hk2, ← hX, ← hY]
        exact ⟨fun e => Prod.ext e.1 e.2, fun e => by rw [e]; exact ⟨rfl, rfl⟩⟩
      have he : ∀ W, (binOp .eql 30 (.agg #[.int .i64 X, .int .i64 Y]) (.agg #[.int .i64 x, .int .i64 y])).run Try.prog W = .ok (.bool (decide (k = q))) W := fun W => by
        rw [run_eq_pt]
        have : (X == x && Y == y) = decide (k = q) := by rw [Bool.eq_iff_iff]; simp [hk3]
        rw [this]
      clear hk2 hk3 hX hY
      have hb : ∀ m, Below w.heap.size w ((w.alloc (.cells #[.int .i64 x, .int .i64 y] 30)).drewN m) := fun m => below_drewN (below_new _) m
      have hB := Lib.hid hb
      clear hb
      by_cases hkq : k = q
      · have hkq' := Lib.hid hkq
        have ht : decide (k = q) = true := decide_eq_true hkq
        rw [ht] at he
        clear hkq ht
        go_wp2
        go_quiet (fail)
        go_wp2
        go_ret
        exact ⟨by rw [HW.out, ← hkq'.out, if_pos hlt]; rfl, below_drewN (hB.out _) nq⟩
      · have hkq' := Lib.hid hkq
        have ht : decide (k = q) = false := decide_eq_false hkq
        rw [ht] at he
        clear hkq ht
        go_wp2
        go_quiet (fail)
        go_wp2
        have := hkq'.out
        exact ⟨⟨k + 1, m + nq, by omega, by go_num, rfl⟩, by simp [intOf]; omega⟩
    · have hkq : k = n ∧ q = n := by omega
      go_wp2
      go_ret
      exact ⟨by rw [HW.out, if_neg (by omega)]; rfl, below_drewN (below_new _) m⟩
end Go.Proofs.Ytjomgjlicfoehaa
