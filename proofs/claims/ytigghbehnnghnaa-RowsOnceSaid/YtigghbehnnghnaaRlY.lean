import Derived.Test.YtigghbehnnghnaaRlX
namespace Go.Proofs.Ytigghbehnnghnaa
open Go.RowKit Go.RowBits Go.MapRaw Go.Maps
set_option linter.unusedSimpArgs false
set_option linter.unusedVariables false

/-! ### Rows and strips out of any numbers -/
def mod2 (l : List Nat) (j : Nat) : Nat := if j < l.length then l.getD j 0 % 2 else 0
def rowE (n : Nat) (l : List Nat) : List Nat := markY (mod2 l) (List.replicate n 0) n
theorem rowE_len (n : Nat) (l : List Nat) : (rowE n l).length = n := by unfold rowE; rw [markY_len]; simp
theorem rowE_lt (n : Nat) (l : List Nat) (j : Nat) : (rowE n l).getD j 0 < 2 := by
  by_cases hj : j < n
  · unfold rowE
    rw [markY_get _ _ (by simpa using hj), if_pos hj]
    unfold mod2
    split <;> omega
  · have : (rowE n l).length ≤ j := by rw [rowE_len]; omega
    simp [this]
theorem mod2_past (l : List Nat) (n : Nat) (h : l.length ≤ n) : markY (mod2 l) (List.replicate n 0) l.length = rowE n l := by
  unfold rowE
  refine extY (by rw [markY_len, markY_len]) fun j hj => ?_
  rw [markY_len] at hj
  rw [markY_get _ _ hj, markY_get _ _ hj]
  have hj' : j < n := by simpa using hj
  rw [if_pos hj']
  unfold mod2
  by_cases h : j < l.length
  · rw [if_pos h]
  · rw [if_neg h, if_neg h]
    simp [hj']
def WRel (B : Nat) (W0 : World) (go n : Nat) (l : List Nat) (i : Value) (wx : World) : Prop :=
  ∃ x : Nat, x ≤ n ∧ x ≤ l.length ∧ i = .int .i64 (x : Int) ∧ Below B W0 wx ∧ YBlk wx go (markY (mod2 l) (List.replicate n 0) x)
set_option maxRecDepth 20000 in
set_option maxHeartbeats 4000000 in
theorem row26 {n : Nat} {w : World} {v : Value} {l : List Nat} (hn : n ≤ 65536) (hv : HasY w v l) : Calls Try.prog 26 #[.int .i64 (n : Int), v] w fun e w' => ∃ g, e = .returned (.slice (some ⟨g, 0, none⟩) n n) ∧ w.heap.size ≤ g ∧ YBlk w' g (rowE n l) ∧ Below w.heap.size w w' := by
  have hmk := fun m => run_make_row' (P := Try.prog) 53 5 (.int .u8 0) 1 Try.underlying53 info5' rfl .i64 .i64 m
  have hmkn : ∀ W, (Instr.makeSlice 53 (.int .i64 (n : Int)) (.int .i64 (n : Int))).run Try.prog W = .ok (.slice (some ⟨W.heap.size, 0, none⟩) n n) (W.alloc (.cells (madeCells #[.int .u8 0] n) 5)) := fun W => hmk n (by omega) (by omega) W
  obtain ⟨ad, cap, rfl, hc⟩ := hv
  have hc' := Lib.hid hc
  clear hmk hc
  go_enter Try.func26, Try.ntmps26
  go_wp2
  have Y1 := YBlk.new w _ _ (made_bytes n)
  have hB1 : Below w.heap.size w (w.alloc (.cells (madeCells #[.int .u8 0] n) 5)) := below_new _
  have Y1' := Lib.hid Y1
  have hB1' := Lib.hid hB1
  clear Y1 hB1
  generalize hW1 : w.alloc (.cells (madeCells #[.int .u8 0] n) 5) = W1 at *
  clear hW1
  go_loopw [6] (fun i wx => WRel w.heap.size w w.heap.size n l i wx) (fun i _ => n - (intOf i).toNat)
  case atStart => exact ⟨0, by omega, by omega, by go_num, hB1'.out, by rw [markY_zero]; exact Y1'.out⟩
  case round =>
    obtain ⟨x, hx, hxl, rfl, hB, hY⟩ := hrel
    have hY' := Lib.hid hY
    have hB' := Lib.hid hB
    by_cases hlt : x < n
    · by_cases hl : x < l.length
      · obtain ⟨g, o, rfl, c1⟩ := hc'.out x hl
        have c1 := cell_kept hB c1
        have hms : Hid (markY (mod2 l) (List.replicate n 0) (x + 1) = (markY (mod2 l) (List.replicate n 0) x).set x (mod2 l x)) := markY_succ _ _ (k := x) (by simpa using hlt)
        have hm2 : Hid (mod2 l x = l.getD x 0 % 2) := by show mod2 l x = _; unfold mod2; rw [if_pos hl]
        have y1 := hY.cell (j := x) (by rw [markY_len]; simpa using hlt)
        have y2 := hY.frozen x
        clear hY hB
        generalize l.getD x 0 = z at *
        have hd : decide ((x : Int) < (l.length : Int)) = true := decide_eq_true (by omega)
        go_wp2
        go_roundw
        case rel => exact ⟨x + 1, by omega, by omega, by go_num, hB'.out.setCell (by simp) _, by
          rw [hms.out, hm2.out]
          have := hY'.out.set (j := x) (z % 2)
          simpa using this⟩
        case measure => simp [intOf]; omega
      · have hle : x = l.length := by omega
        have hd : decide ((x : Int) < (l.length : Int)) = false := decide_eq_false (by omega)
        have hf : markY (mod2 l) (List.replicate n 0) x = rowE n l := by rw [hle]; exact mod2_past l n (by omega)
        have hY2 : Hid (YBlk wr w.heap.size (rowE n l)) := by rw [← hf]; exact hY
        clear hf hY hB hle hY'
        go_wp2
        go_ret
        exact ⟨_, rfl, Nat.le_refl _, hY2.out, hB'.out⟩
    · obtain rfl : x = n := by omega
      have hY2 : Hid (YBlk wr w.heap.size (rowE x l)) := hY
      clear hY hB hY'
      go_wp2
      go_ret
      exact ⟨_, rfl, Nat.le_refl _, hY2.out, hB'.out⟩
end Go.Proofs.Ytigghbehnnghnaa
