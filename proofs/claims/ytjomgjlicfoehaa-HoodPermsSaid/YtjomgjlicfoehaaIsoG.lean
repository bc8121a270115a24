import Derived.Test.YtjomgjlicfoehaaIsoF
namespace Go.Proofs.Ytjomgjlicfoehaa
open Go.RowKit Flt
attribute [local go_sem] run_store_float run_store_complex unary_neg_float unary_neg_complex
set_option linter.unusedSimpArgs false
set_option linter.unusedVariables false

/-! ### The document's answer -/
theorem F_mone : F (-1) = 13830554455654793216 := by decide +kernel

set_option maxHeartbeats 2000000 in
theorem rturn {k : Nat} (h : k < 8) (w : World) :
    Calls Try.prog 74 #[.int .i64 k] w fun e w' => e = .returned (.complex .f64 (F (tvx (k % 4))) (F (tvy (k % 4)))) ∧ Below w.heap.size w w' := by
  match k, h with
  | 0, _ =>
    show Calls Try.prog 74 #[.int .i64 0] w fun e w' => e = .returned (.complex .f64 (F 1) (F 0)) ∧ Below w.heap.size w w'
    rw [F_one, F_zero]
    go_enter Try.func74, Try.ntmps74
    go_wp2
    go_ret
    exact ⟨rfl, below_new _⟩
  | 1, _ =>
    show Calls Try.prog 74 #[.int .i64 1] w fun e w' => e = .returned (.complex .f64 (F 0) (F 1)) ∧ Below w.heap.size w w'
    rw [F_one, F_zero]
    go_enter Try.func74, Try.ntmps74
    go_wp2
    go_ret
    exact ⟨rfl, below_new _⟩
  | 2, _ =>
    show Calls Try.prog 74 #[.int .i64 2] w fun e w' => e = .returned (.complex .f64 (F (-1)) (F 0)) ∧ Below w.heap.size w w'
    rw [F_mone, F_zero]
    go_enter Try.func74, Try.ntmps74
    go_wp2
    go_ret
    exact ⟨rfl, below_new _⟩
  | 3, _ =>
    show Calls Try.prog 74 #[.int .i64 3] w fun e w' => e = .returned (.complex .f64 (F 0) (F (-1))) ∧ Below w.heap.size w w'
    rw [F_mone, F_zero]
    go_enter Try.func74, Try.ntmps74
    go_wp2
    go_ret
    exact ⟨rfl, below_new _⟩
  | 4, _ =>
    show Calls Try.prog 74 #[.int .i64 4] w fun e w' => e = .returned (.complex .f64 (F 1) (F 0)) ∧ Below w.heap.size w w'
    rw [F_one, F_zero]
    go_enter Try.func74, Try.ntmps74
    go_wp2
    go_ret
    exact ⟨rfl, below_new _⟩
  | 5, _ =>
    show Calls Try.prog 74 #[.int .i64 5] w fun e w' => e = .returned (.complex .f64 (F 0) (F 1)) ∧ Below w.heap.size w w'
    rw [F_one, F_zero]
    go_enter Try.func74, Try.ntmps74
    go_wp2
    go_ret
    exact ⟨rfl, below_new _⟩
  | 6, _ =>
    show Calls Try.prog 74 #[.int .i64 6] w fun e w' => e = .returned (.complex .f64 (F (-1)) (F 0)) ∧ Below w.heap.size w w'
    rw [F_mone, F_zero]
    go_enter Try.func74, Try.ntmps74
    go_wp2
    go_ret
    exact ⟨rfl, below_new _⟩
  | 7, _ =>
    show Calls Try.prog 74 #[.int .i64 7] w fun e w' => e = .returned (.complex .f64 (F 0) (F (-1))) ∧ Below w.heap.size w w'
    rw [F_mone, F_zero]
    go_enter Try.func74, Try.ntmps74
    go_wp2
    go_ret
    exact ⟨rfl, below_new _⟩

set_option maxRecDepth 10000 in
set_option maxHeartbeats 4000000 in
theorem rquarters_walk (a b : Nat) (t0 t1 t2 t3 : Bool)
    (h0 : ((FloatKind.f64.format.order a (F (tvx 0)) == some .eq) && (FloatKind.f64.format.order b (F (tvy 0)) == some .eq)) = t0)
    (h1 : ((FloatKind.f64.format.order a (F (tvx 1)) == some .eq) && (FloatKind.f64.format.order b (F (tvy 1)) == some .eq)) = t1)
    (h2 : ((FloatKind.f64.format.order a (F (tvx 2)) == some .eq) && (FloatKind.f64.format.order b (F (tvy 2)) == some .eq)) = t2)
    (h3 : ((FloatKind.f64.format.order a (F (tvx 3)) == some .eq) && (FloatKind.f64.format.order b (F (tvy 3)) == some .eq)) = t3)
    (w : World) :
    Calls Try.prog 71 #[.complex .f64 a b] w fun e w' => e = .returned (if t0 then .int .i64 0 else if t1 then .int .i64 1 else if t2 then .int .i64 2 else if t3 then .int .i64 3 else .int .i64 (-1)) ∧ Below w.heap.size w w' := by
  have c0 : ∀ W, Calls Try.prog 74 #[.int .i64 0] W fun e w' => e = .returned (.complex .f64 (F (tvx 0)) (F (tvy 0))) ∧ Below W.heap.size W w' := fun W => rturn (k := 0) (by omega) W
  have c1 : ∀ W, Calls Try.prog 74 #[.int .i64 1] W fun e w' => e = .returned (.complex .f64 (F (tvx 1)) (F (tvy 1))) ∧ Below W.heap.size W w' := fun W => rturn (k := 1) (by omega) W
  have c2 : ∀ W, Calls Try.prog 74 #[.int .i64 2] W fun e w' => e = .returned (.complex .f64 (F (tvx 2)) (F (tvy 2))) ∧ Below W.heap.size W w' := fun W => rturn (k := 2) (by omega) W
  have c3 : ∀ W, Calls Try.prog 74 #[.int .i64 3] W fun e w' => e = .returned (.complex .f64 (F (tvx 3)) (F (tvy 3))) ∧ Below W.heap.size W w' := fun W => rturn (k := 3) (by omega) W
  have d0 := Lib.hid c0
  have d1 := Lib.hid c1
  have d2 := Lib.hid c2
  have d3 := Lib.hid c3
  clear c0 c1 c2 c3
  generalize F (tvx 0) = x0 at *
  generalize F (tvx 1) = x1 at *
  generalize F (tvx 2) = x2 at *
  generalize F (tvx 3) = x3 at *
  generalize F (tvy 0) = y0 at *
  generalize F (tvy 1) = y1 at *
  generalize F (tvy 2) = y2 at *
  generalize F (tvy 3) = y3 at *
  cases t0
  · cases t1
    · cases t2
      · cases t3
        · go_enter Try.func71, Try.ntmps71
          go_wp2
          refine wp_loop_rounds 5 ?_
          rw [rounds_succ]
          go_wp2_with fail
          refine (d0.out _).mono ?_
          rintro e w1 ⟨rfl, hb1⟩
          have hB1 := Lib.hid hb1
          clear hb1
          go_wp2
          rw [rounds_succ]
          go_wp2_with fail
          refine (d1.out _).mono ?_
          rintro e w2 ⟨rfl, hb2⟩
          have hB2 := Lib.hid (below_step hB1.out hb2)
          clear hb2
          go_wp2
          rw [rounds_succ]
          go_wp2_with fail
          refine (d2.out _).mono ?_
          rintro e w3 ⟨rfl, hb3⟩
          have hB3 := Lib.hid (below_step hB2.out hb3)
          clear hb3
          go_wp2
          rw [rounds_succ]
          go_wp2_with fail
          refine (d3.out _).mono ?_
          rintro e w4 ⟨rfl, hb4⟩
          have hB4 := Lib.hid (below_step hB3.out hb4)
          clear hb4
          go_wp2
          rw [rounds_succ]
          go_wp2
          go_ret
          exact ⟨rfl, hB4.out⟩
        · go_enter Try.func71, Try.ntmps71
          go_wp2
          refine wp_loop_rounds 4 ?_
          rw [rounds_succ]
          go_wp2_with fail
          refine (d0.out _).mono ?_
          rintro e w1 ⟨rfl, hb1⟩
          have hB1 := Lib.hid hb1
          clear hb1
          go_wp2
          rw [rounds_succ]
          go_wp2_with fail
          refine (d1.out _).mono ?_
          rintro e w2 ⟨rfl, hb2⟩
          have hB2 := Lib.hid (below_step hB1.out hb2)
          clear hb2
          go_wp2
          rw [rounds_succ]
          go_wp2_with fail
          refine (d2.out _).mono ?_
          rintro e w3 ⟨rfl, hb3⟩
          have hB3 := Lib.hid (below_step hB2.out hb3)
          clear hb3
          go_wp2
          rw [rounds_succ]
          go_wp2_with fail
          refine (d3.out _).mono ?_
          rintro e w4 ⟨rfl, hb4⟩
          have hB4 := Lib.hid (below_step hB3.out hb4)
          clear hb4
          go_wp2
          go_ret
          exact ⟨rfl, hB4.out⟩
      · go_enter Try.func71, Try.ntmps71
        go_wp2
        refine wp_loop_rounds 3 ?_
        rw [rounds_succ]
        go_wp2_with fail
        refine (d0.out _).mono ?_
        rintro e w1 ⟨rfl, hb1⟩
        have hB1 := Lib.hid hb1
        clear hb1
        go_wp2
        rw [rounds_succ]
        go_wp2_with fail
        refine (d1.out _).mono ?_
        rintro e w2 ⟨rfl, hb2⟩
        have hB2 := Lib.hid (below_step hB1.out hb2)
        clear hb2
        go_wp2
        rw [rounds_succ]
        go_wp2_with fail
        refine (d2.out _).mono ?_
        rintro e w3 ⟨rfl, hb3⟩
        have hB3 := Lib.hid (below_step hB2.out hb3)
        clear hb3
        go_wp2
        go_ret
        exact ⟨rfl, hB3.out⟩
    · go_enter Try.func71, Try.ntmps71
      go_wp2
      refine wp_loop_rounds 2 ?_
      rw [rounds_succ]
      go_wp2_with fail
      refine (d0.out _).mono ?_
      rintro e w1 ⟨rfl, hb1⟩
      have hB1 := Lib.hid hb1
      clear hb1
      go_wp2
      rw [rounds_succ]
      go_wp2_with fail
      refine (d1.out _).mono ?_
      rintro e w2 ⟨rfl, hb2⟩
      have hB2 := Lib.hid (below_step hB1.out hb2)
      clear hb2
      go_wp2
      go_ret
      exact ⟨rfl, hB2.out⟩
  · go_enter Try.func71, Try.ntmps71
    go_wp2
    refine wp_loop_rounds 1 ?_
    rw [rounds_succ]
    go_wp2_with fail
    refine (d0.out _).mono ?_
    rintro e w1 ⟨rfl, hb1⟩
    have hB1 := Lib.hid hb1
    clear hb1
    go_wp2
    go_ret
    exact ⟨rfl, hB1.out⟩


theorem rtb_of {a b k : Nat} (h : IsTurn a b k) (j : Nat) (hj : j < 4) :
    ((FloatKind.f64.format.order a (F (tvx j)) == some .eq) && (FloatKind.f64.format.order b (F (tvy j)) == some .eq)) = decide (k = j) := by
  obtain ⟨hk, ha, hb⟩ := h
  have t := tv_abs hj
  rw [eq_int ha (isInt_F _ (by omega)), eq_int hb (isInt_F _ (by omega))]
  have hk' : k = 0 ∨ k = 1 ∨ k = 2 ∨ k = 3 := by omega
  have hj' : j = 0 ∨ j = 1 ∨ j = 2 ∨ j = 3 := by omega
  rcases hk' with rfl | rfl | rfl | rfl <;> rcases hj' with rfl | rfl | rfl | rfl <;> decide

theorem rquarters_yes {a b k : Nat} (h : IsTurn a b k) (w : World) :
    Calls Try.prog 71 #[.complex .f64 a b] w fun e w' => e = .returned (.int .i64 k) ∧ Below w.heap.size w w' := by
  refine (rquarters_walk a b _ _ _ _ (rtb_of h 0 (by omega)) (rtb_of h 1 (by omega)) (rtb_of h 2 (by omega)) (rtb_of h 3 (by omega)) w).mono ?_
  rintro e w' ⟨rfl, hb⟩
  refine ⟨?_, hb⟩
  have hk := h.1
  match k, hk with
  | 0, _ => rfl
  | 1, _ => rfl
  | 2, _ => rfl
  | 3, _ => rfl

theorem rquarters_no {a b : Nat} (ha : a < 18446744073709551616) (hb : b < 18446744073709551616) (h : ¬ ∃ k, IsTurn a b k) (w : World) :
    Calls Try.prog 71 #[.complex .f64 a b] w fun e w' => e = .returned (.int .i64 (-1)) ∧ Below w.heap.size w w' := by
  have key : ∀ j, j < 4 → ((FloatKind.f64.format.order a (F (tvx j)) == some .eq) && (FloatKind.f64.format.order b (F (tvy j)) == some .eq)) = false := fun j hj => by
    cases hc : ((FloatKind.f64.format.order a (F (tvx j)) == some .eq) && (FloatKind.f64.format.order b (F (tvy j)) == some .eq)) with
    | false => rfl
    | true =>
      rw [Bool.and_eq_true] at hc
      have t := tv_abs hj
      have e1 := isInt_of_eq ha (t := decide (tvx j < 0)) (u := (tvx j).natAbs) (by omega) (by simpa [F, fmt64] using hc.1)
      have e2 := isInt_of_eq hb (t := decide (tvy j < 0)) (u := (tvy j).natAbs) (by omega) (by simpa [F, fmt64] using hc.2)
      rw [sg_self] at e1 e2
      exact absurd ⟨j, hj, e1, e2⟩ h
  refine (rquarters_walk a b _ _ _ _ (key 0 (by omega)) (key 1 (by omega)) (key 2 (by omega)) (key 3 (by omega)) w).mono ?_
  rintro e w' ⟨rfl, hb⟩
  exact ⟨rfl, hb⟩

set_option maxRecDepth 10000 in
set_option maxHeartbeats 400000 in
theorem rwhole_yes {x : Nat} {z : Int} (h : Fit x z) (w : World) :
    Calls Try.prog 72 #[.float .f64 x] w fun e w' => e = .returned (.tuple #[.int .i64 z, .bool true]) ∧ w = w' := by
  have h1 := fit_ge h
  have h2 := fit_le h
  have hc := fun W => run_convert_float_int (P := Try.prog) W 32 3 .f64 .i64 x z (by rw [Try.underlying32]; rfl) Try.underlying3 (fit_conv h)
  have hF := fit_F h
  have h3 : (FloatKind.f64.format.order (F z) x == some .eq) = true := by rw [eq_int (isInt_F z (by have := h.2; omega)) h.1]; simp
  clear h
  go_enter Try.func72, Try.ntmps72
  go_wp2
  go_ret2
  exact ⟨rfl, rfl⟩

def NoInt (w : World) (e : Ending) (w' : World) : Prop := ∃ t, e = .returned (.tuple #[.int .i64 t, .bool false]) ∧ w = w'

theorem order_symm_false {x y : Nat} (h : (FloatKind.f64.format.order x y == some .eq) = false) : (FloatKind.f64.format.order y x == some .eq) = false := by
  cases hc : (FloatKind.f64.format.order y x == some .eq) with
  | false => rfl
  | true =>
    have := order_symm (x := y) (y := x) (by simpa [fmt64] using hc)
    rw [fmt64, this] at h
    simp at h

set_option maxRecDepth 10000 in
set_option maxHeartbeats 400000 in
theorem rwhole_no {x : Nat} (hx : x < 18446744073709551616) (h : ¬ ∃ z, Fit x z) (w : World) :
    Calls Try.prog 72 #[.float .f64 x] w (NoInt w) := by
  rcases fit_or x hx with h' | h' | ⟨h1, h2⟩ | ⟨h1, h2, t, hc, hF, h3⟩
  · exact absurd h' h
  · clear h
    go_enter Try.func72, Try.ntmps72
    go_wp2
    go_ret2
    exact ⟨0, rfl, rfl⟩
  · clear h
    go_enter Try.func72, Try.ntmps72
    go_wp2
    go_ret2
    exact ⟨0, rfl, rfl⟩
  · clear h
    have hc' := fun W => run_convert_float_int (P := Try.prog) W 32 3 .f64 .i64 x t (by rw [Try.underlying32]; rfl) Try.underlying3 hc
    have h4 := order_symm_false h3
    clear hc h3
    go_enter Try.func72, Try.ntmps72
    go_wp2
    go_ret2
    exact ⟨t, rfl, rfl⟩

end Go.Proofs.Ytjomgjlicfoehaa
