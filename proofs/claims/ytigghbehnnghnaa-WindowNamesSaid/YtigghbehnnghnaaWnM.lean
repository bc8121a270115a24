import Derived.Test.YtigghbehnnghnaaWnL
namespace Go.Proofs.Ytigghbehnnghnaa
open Go.RowKit Go.RowBits
set_option linter.unusedSimpArgs false
set_option linter.unusedVariables false

/-! ### What makes no strip -/
set_option maxHeartbeats 1000000 in
theorem conway29 (w : World) : Calls Try.prog 29 #[] w fun e w' => e = .returned (lifeRule 1 8 12) ∧ Below w.heap.size w w' := by
  go_enter Try.func29, Try.ntmps29
  go_wp2
  refine bodyPost_ret (v := lifeRule 1 8 12) ?_ rfl ⟨rfl, below_new _⟩
  rw [results_cell1 rfl]
  go_simp
abbrev zeroRule : Value := .agg #[.int .u8 0, .int .u8 0, .int .u16 0, .int .u16 0, .int .i64 0, .string ⟨#[]⟩, .int .i64 0, .int .u8 0, .int .u8 0, .slice none 0 0, .slice none 0 0]
set_option maxHeartbeats 2000000 in
theorem of80_zero (w : World) : Calls Try.prog 80 #[zeroRule] w fun e w' => e = .returned (.tuple #[.nilIface, .int .i64 8]) ∧ Below w.heap.size w w' := by
  have K1 := Lib.hid (fun W => bare94 W)
  go_enter Try.func80, Try.ntmps80
  go_wp2_with fail
  refine (K1.out _).mono ?_
  rintro e w1 ⟨rfl, hb⟩
  obtain ⟨hc1, hf1⟩ := bcell hb
  have hz1 : w.heap.size < w1.heap.size := by have := hb.size; simp at this; omega
  have hB1 := Lib.hid (below_then (B := w.heap.size) (below_new _) hb (by simp))
  clear hb
  go_wp2
  go_ret2
  exact ⟨rfl, hB1.out⟩
set_option maxHeartbeats 2000000 in
theorem check55_zero (w : World) : Calls Try.prog 55 #[zeroRule] w fun e w' => e = .returned (.int .i64 8) ∧ Below w.heap.size w w' := by
  have K1 := Lib.hid (fun W => of80_zero W)
  go_enter Try.func55, Try.ntmps55
  go_wp2_with fail
  refine (K1.out _).mono ?_
  rintro e w1 ⟨rfl, hb⟩
  have hB1 := Lib.hid (below_then (B := w.heap.size) (below_new _) hb (by simp))
  clear hb
  go_wp2
  go_ret
  exact ⟨rfl, hB1.out⟩
set_option maxHeartbeats 2000000 in
theorem check28_zero (w : World) : Calls Try.prog 28 #[zeroRule, topoV 0 0 0] w fun e w' => e = .returned (.int .i64 8) ∧ Below w.heap.size w w' := by
  have K1 := Lib.hid (fun W => check55_zero W)
  go_enter Try.func28, Try.ntmps28
  go_wp2_with fail
  refine (K1.out _).mono ?_
  rintro e w1 ⟨rfl, hb⟩
  have hB1 := Lib.hid (below_then (B := w.heap.size) ((below_new _).alloc (by simp) _) hb (by simp; omega))
  clear hb
  go_wp2
  go_ret
  exact ⟨rfl, hB1.out⟩
set_option maxHeartbeats 2000000 in
theorem check28_sides {h : Int} {born stay : Nat} {k W H : Int} {E : Int} (hb1 : born < 65536) (hs1 : stay < 65536) (hE : lifeE h born stay = 0) (hk : k = 1 ∨ k = 2) (hW : 0 ≤ W ∧ W ≤ 65536) (hH : 0 ≤ H ∧ H ≤ 65536) (hR : (W = 0 ∧ H = 0 ∧ E = 191) ∨ (¬ W = 0 ∧ ¬ H = 0 ∧ E = 192) ∨ (W = 0 ∧ ¬ H = 0 ∧ E = 194)) (w : World) :
    Calls Try.prog 28 #[lifeRule h born stay, topoV k W H] w fun e w' => e = .returned (.int .i64 E) ∧ Below w.heap.size w w' := by
  have K1 := Lib.hid (fun W' => check55 hb1 hs1 hE W')
  have K20 := fun W' => endless56 (k := k) (W := W) (H := H) hk hW hH W'
  rcases hR with ⟨rfl, rfl, rfl⟩ | ⟨h1, h2, rfl⟩ | ⟨rfl, h2, rfl⟩
  case' inr.inl =>
    rw [show (W == 0) = false from beq_eq_false_iff_ne.2 h1, show (H == 0) = false from beq_eq_false_iff_ne.2 h2] at K20
  case' inr.inr =>
    rw [show (H == 0) = false from beq_eq_false_iff_ne.2 h2] at K20
  all_goals
    try rw [show ((0 : Int) == 0) = true from rfl] at K20
    have K2 := Lib.hid K20
    clear hE hk hW hH K20
    go_enter Try.func28, Try.ntmps28
    go_wp2_with fail
    refine (K1.out _).mono ?_
    rintro e w1 ⟨rfl, hb⟩
    obtain ⟨hc1, hf1⟩ := bcell hb
    have hz1 : w.heap.size + 1 < w1.heap.size := by have := hb.size; simp at this; omega
    have hz1' : w.heap.size < w1.heap.size := by omega
    have hB1 := Lib.hid (below_then (B := w.heap.size) ((below_new _).alloc (by simp) _) hb (by simp; omega))
    clear hb
    go_wp2_with fail
    refine (K2.out _).mono ?_
    rintro e w2 ⟨rfl, hb⟩
    have hB2 := Lib.hid (below_then hB1.out hb hB1.out.size)
    clear hb
    go_wp2
    go_ret
    exact ⟨rfl, hB2.out⟩
end Go.Proofs.Ytigghbehnnghnaa
