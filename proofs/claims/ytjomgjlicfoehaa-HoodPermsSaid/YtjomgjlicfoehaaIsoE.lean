import Derived.Test.YtjomgjlicfoehaaIsoD
namespace Go.Proofs.Ytjomgjlicfoehaa
open Go.RowKit Flt
set_option linter.unusedSimpArgs false
attribute [local go_sem] run_store_float run_store_complex unary_neg_float unary_neg_complex

def farN (x : Int) : Prop := x < -1099511627776 ∨ 1099511627776 < x
def Near (x y : Int) : Prop := -1099511627776 ≤ x ∧ x ≤ 1099511627776 ∧ -1099511627776 ≤ y ∧ y ≤ 1099511627776

set_option maxHeartbeats 400000 in
theorem near_yes {x y : Int} (h : Near x y) (w : World) :
    Calls Try.prog 57 #[.agg #[.int .i64 x, .int .i64 y]] w fun e w' => e = .returned (.bool true) ∧ Below w.heap.size w w' := by
  obtain ⟨h1, h2, h3, h4⟩ := h
  go_enter Try.func57, Try.ntmps57
  go_wp2
  go_ret
  exact ⟨by simp, below_new _⟩

set_option maxHeartbeats 400000 in
theorem near_no {x y : Int} (h : ¬ Near x y) (w : World) :
    Calls Try.prog 57 #[.agg #[.int .i64 x, .int .i64 y]] w fun e w' => e = .returned (.bool false) ∧ Below w.heap.size w w' := by
  unfold Near at h
  go_enter Try.func57, Try.ntmps57
  go_wp2
  all_goals
    go_ret
    exact ⟨by first | rfl | (simp; omega), below_new _⟩

theorem isTurn_F {k : Nat} (hk : k < 4) : IsTurn (F (tvx k)) (F (tvy k)) k := by
  refine ⟨hk, isInt_F _ ?_, isInt_F _ ?_⟩ <;> rcases tv_cases hk with ⟨h1, h2⟩ | ⟨h1, h2⟩ | ⟨h1, h2⟩ | ⟨h1, h2⟩ <;> simp [h1, h2]
theorem fit_F' {x : Int} (h : x.natAbs ≤ 1099511627776) : Fit (F x) x := ⟨isInt_F x (by omega), h⟩

/-- The map of a linear part and a Move, in its one form. -/
def isoF (k : Nat) (f : Bool) (x y : Int) : Value := isoV (F (tvx k)) (F (tvy k)) f (F x) (F y)
theorem F_zero : F 0 = 0 := by decide +kernel
theorem F_one : F 1 = 4607182418800017408 := by decide +kernel

theorem tidx (k : Nat) (hk : k < 4) (w : World) : ∃ a b, (Instr.index 107 turnsV (.int .i64 (k : Int))).run Try.prog w = .ok (.complex .f64 a b) w ∧ IsTurn a b k := by
  match k, hk with
  | 0, _ => exact ⟨_, _, tidx0 w, by omega, isInt_one, isInt_zero⟩
  | 1, _ => exact ⟨_, _, tidx1 w, by omega, isInt_zero, isInt_one⟩
  | 2, _ => exact ⟨_, _, tidx2 w, by omega, isInt_mone, isInt_zero⟩
  | 3, _ => exact ⟨_, _, tidx3 w, by omega, isInt_zero, isInt_mone⟩

theorem turn_const (k : Nat) (hk : k < 4) : ∃ a b, (∀ w, (Instr.index 107 turnsV (.int .i64 (k : Int))).run Try.prog w = .ok (.complex .f64 a b) w) ∧ IsTurn a b k := by
  match k, hk with
  | 0, _ => exact ⟨_, _, tidx0, by omega, isInt_one, isInt_zero⟩
  | 1, _ => exact ⟨_, _, tidx1, by omega, isInt_zero, isInt_one⟩
  | 2, _ => exact ⟨_, _, tidx2, by omega, isInt_mone, isInt_zero⟩
  | 3, _ => exact ⟨_, _, tidx3, by omega, isInt_zero, isInt_mone⟩

theorem below_set3 {w w2 : World} {u v x : Value} (h : Below w.heap.size w w2) : Below w.heap.size w (((w2.setCell ⟨w.heap.size, 0, none⟩ u).setCell ⟨w.heap.size, 1, none⟩ v).setCell ⟨w.heap.size, 2, none⟩ x) :=
  ((h.setCell (Nat.le_refl _) _).setCell (Nat.le_refl _) _).setCell (Nat.le_refl _) _

def isoZero : Value := isoV 0 0 false 0 0

set_option maxHeartbeats 400000 in
theorem part_no {k : Int} (h : k < 0 ∨ 7 < k) (w : World) :
    Calls Try.prog 40 #[.int .i64 k] w fun e w' => e = .returned (.tuple #[isoZero, .int .i64 2]) ∧ Below w.heap.size w w' := by
  rcases h with h | h
  · go_enter Try.func40, Try.ntmps40
    go_wp2
    exact bodyPost_ret (v := .tuple #[isoZero, .int .i64 2]) (by simp [results, Try.results40, go_sem, isoZero]) rfl ⟨rfl, below_new _⟩
  · go_enter Try.func40, Try.ntmps40
    go_wp2
    exact bodyPost_ret (v := .tuple #[isoZero, .int .i64 2]) (by simp [results, Try.results40, go_sem, isoZero]) rfl ⟨rfl, below_new _⟩

set_option maxHeartbeats 1000000 in
theorem part_yes {k : Nat} (h : k < 8) (w : World) :
    Calls Try.prog 40 #[.int .i64 k] w fun e w' => e = .returned (.tuple #[isoF (k % 4) (decide (4 ≤ k)) 0 0, .int .i64 0]) ∧ Below w.heap.size w w' := by
  obtain ⟨a, b, hi, ht⟩ := turn_const (k % 4) (by omega)
  have H2 := fun f W => made_int (a := a) (b := b) (c := 0) (d := 0) f ht.2.1 ht.2.2 isInt_zero isInt_zero W
  have K2 := Lib.hid H2
  clear H2 ht
  have hi' : ∀ w, (Instr.index 107 turnsV (.int .i64 ((k : Int) % 4))).run Try.prog w = .ok (.complex .f64 a b) w := fun W => by
    have := hi W
    rwa [show ((k % 4 : Nat) : Int) = (k : Int) % 4 from by omega] at this
  clear hi
  go_enter Try.func40, Try.ntmps40
  go_wp2_with fail
  refine (turns_any _).mono ?_
  rintro e w1 ⟨rfl, hb⟩
  obtain ⟨hc, hf⟩ := bcell hb
  have hz : w.heap.size < w1.heap.size := by have := hb.size; simp at this; omega
  have hB := Lib.hid (Below.trans (below_new _) (hb.mono (by simp)))
  clear hb
  go_wp2_with fail
  refine (K2.out _ _).mono ?_
  rintro e w2 ⟨rfl, hb⟩
  obtain ⟨hc2, hf2⟩ := bcell hb
  have hz2 : w.heap.size < w2.heap.size := by have := hb.size; omega
  have hB2 := Lib.hid (hB.out.trans (hb.mono (by omega)))
  clear hb
  go_wp2
  exact bodyPost_ret (v := .tuple #[isoF (k % 4) (decide (4 ≤ k)) 0 0, .int .i64 0]) (by simp [results, Try.results40, go_sem, hc2, hc, hz, isoF]; omega) rfl ⟨rfl, below_set3 hB2.out⟩

set_option maxHeartbeats 1000000 in
theorem shift_no {x y : Int} (h : ¬ Near x y) (w : World) :
    Calls Try.prog 28 #[.int .i64 x, .int .i64 y] w fun e w' => e = .returned (.tuple #[isoZero, .int .i64 5]) ∧ Below w.heap.size w w' := by
  have H1 := fun W => near_no h W
  have K1 := Lib.hid H1
  clear h H1
  go_enter Try.func28, Try.ntmps28
  go_wp2_with fail
  refine (K1.out _).mono ?_
  rintro e w1 ⟨rfl, hb⟩
  obtain ⟨hc, hf⟩ := bcell hb
  have hz : w.heap.size < w1.heap.size := by have := hb.size; simp at this; omega
  have hB := Lib.hid (Below.trans (below_new _) (hb.mono (by simp)))
  clear hb
  go_wp2
  exact bodyPost_ret (v := .tuple #[isoZero, .int .i64 5]) (by simp [results, Try.results28, go_sem, hc, hz, isoZero]) rfl ⟨rfl, below_set3 hB.out⟩

set_option maxHeartbeats 1000000 in
theorem shift_yes {x y : Int} (h : Near x y) (w : World) :
    Calls Try.prog 28 #[.int .i64 x, .int .i64 y] w fun e w' => e = .returned (.tuple #[isoF 0 false x y, .int .i64 0]) ∧ Below w.heap.size w w' := by
  have H1 := fun W => near_yes h W
  have K1 := Lib.hid H1
  have H2 := fun W => made_int (a := 4607182418800017408) (b := 0) (c := F x) (d := F y) false isInt_one isInt_zero (isInt_F x (by unfold Near at h; omega)) (isInt_F y (by unfold Near at h; omega)) W
  have K2 := Lib.hid H2
  have hx : floatOfInt .f64 x = F x := floatOfInt_F x (by unfold Near at h; omega)
  have hy : floatOfInt .f64 y = F y := floatOfInt_F y (by unfold Near at h; omega)
  clear h H1 H2
  go_enter Try.func28, Try.ntmps28
  go_wp2_with fail
  refine (K1.out _).mono ?_
  rintro e w1 ⟨rfl, hb⟩
  obtain ⟨hc, hf⟩ := bcell hb
  have hz : w.heap.size < w1.heap.size := by have := hb.size; simp at this; omega
  have hB := Lib.hid (Below.trans (below_new _) (hb.mono (by simp)))
  clear hb
  go_wp2_with fail
  refine (K2.out _).mono ?_
  rintro e w2 ⟨rfl, hb⟩
  obtain ⟨hc2, hf2⟩ := bcell hb
  have hz2 : w.heap.size < w2.heap.size := by have := hb.size; omega
  have hB2 := Lib.hid (hB.out.trans (hb.mono (by omega)))
  clear hb
  go_wp2
  exact bodyPost_ret (v := .tuple #[isoF 0 false x y, .int .i64 0]) (by simp [results, Try.results28, go_sem, hc2, hc, hz, isoF, tvx, tvy]) rfl ⟨rfl, below_set3 hB2.out⟩

set_option maxHeartbeats 1000000 in
theorem which_no {a b c d : Nat} (f : Bool) (hw : Wide a b c d) (h : ¬ ∃ k x y, IsMap a b c d k x y) (w : World) :
    Calls Try.prog 29 #[isoV a b f c d] w fun e w' => e = .returned (.tuple #[.int .i64 0, .int .i64 50]) ∧ Below w.heap.size w w' := by
  have H1 := fun W => valid_no f hw h W
  have K1 := Lib.hid H1
  clear h H1 hw
  go_enter Try.func29, Try.ntmps29
  go_wp2_with fail
  refine (K1.out _).mono ?_
  rintro e w1 ⟨rfl, hb⟩
  obtain ⟨hc, hf⟩ := bcell hb
  have hz : w.heap.size < w1.heap.size := by have := hb.size; simp at this; omega
  have hB := Lib.hid (Below.trans (below_new _) (hb.mono (by simp)))
  clear hb
  go_wp2
  go_ret2
  exact ⟨rfl, hB.out⟩

/-- The number of a map's linear part. -/
def linN (k : Nat) (f : Bool) : Int := if f then (k : Int) + 4 else k

set_option maxHeartbeats 1000000 in
theorem which_yes {a b c d k : Nat} {x y : Int} (f : Bool) (h : IsMap a b c d k x y) (w : World) :
    Calls Try.prog 29 #[isoV a b f c d] w fun e w' => e = .returned (.tuple #[.int .i64 (linN k f), .int .i64 0]) ∧ Below w.heap.size w w' := by
  have H1 := fun W => valid_yes f h W
  have K1 := Lib.hid H1
  have H2 := fun W => quarter_yes h.turn W
  have K2 := Lib.hid H2
  have hk := h.turn.1
  clear h H1 H2
  cases f
  · go_enter Try.func29, Try.ntmps29
    go_wp2_with fail
    refine (K1.out _).mono ?_
    rintro e w1 ⟨rfl, hb⟩
    obtain ⟨hc, hf⟩ := bcell hb
    have hz : w.heap.size < w1.heap.size := by have := hb.size; simp at this; omega
    have hB := Lib.hid (Below.trans (below_new _) (hb.mono (by simp)))
    clear hb
    go_wp2_with fail
    refine (K2.out _).mono ?_
    rintro e w2 ⟨rfl, hb⟩
    obtain ⟨hc2, hf2⟩ := bcell hb
    have hz2 : w.heap.size < w2.heap.size := by have := hb.size; omega
    have hB2 := Lib.hid (hB.out.trans (hb.mono (by omega)))
    clear hb
    go_wp2
    go_ret2
    exact ⟨rfl, hB2.out⟩
  · go_enter Try.func29, Try.ntmps29
    go_wp2_with fail
    refine (K1.out _).mono ?_
    rintro e w1 ⟨rfl, hb⟩
    obtain ⟨hc, hf⟩ := bcell hb
    have hz : w.heap.size < w1.heap.size := by have := hb.size; simp at this; omega
    have hB := Lib.hid (Below.trans (below_new _) (hb.mono (by simp)))
    clear hb
    go_wp2_with fail
    refine (K2.out _).mono ?_
    rintro e w2 ⟨rfl, hb⟩
    obtain ⟨hc2, hf2⟩ := bcell hb
    have hz2 : w.heap.size < w2.heap.size := by have := hb.size; omega
    have hB2 := Lib.hid (hB.out.trans (hb.mono (by omega)))
    clear hb
    go_wp2
    go_ret2
    exact ⟨rfl, hB2.out⟩
end Go.Proofs.Ytjomgjlicfoehaa
