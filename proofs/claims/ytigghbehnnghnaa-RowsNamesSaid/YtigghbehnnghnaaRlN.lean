import Derived.Test.YtigghbehnnghnaaRlM
import Derived.Lib.SliceRun
import Derived.Test.YtigghbehnnghnaaRegInv
namespace Go.Proofs.Ytigghbehnnghnaa
open Go.RowKit Go.RowBits Go.MapRaw Go.Maps
set_option linter.unusedSimpArgs false
set_option linter.unusedVariables false

/-! ### A new book -/
theorem clone73 (w : World) : Calls Try.prog 73 #[.slice none 0 0] w fun e w' => e = .returned (.slice none 0 0) ∧ w' = w := by
  have q := fun (w : World) (a : Option Addr) (n c n' c' : Nat) => Lib.run_eql_slice_nil (P := Try.prog) w 41 _ a n c n' c' Try.underlying41
  go_enter Try.func73, Try.ntmps73
  go_wp2
  go_ret
  exact ⟨rfl, rfl⟩
theorem clone75 (w : World) : Calls Try.prog 75 #[.slice none 0 0] w fun e w' => e = .returned (.slice none 0 0) ∧ w' = w := by
  have q := fun (w : World) (a : Option Addr) (n c n' c' : Nat) => Lib.run_eql_slice_nil (P := Try.prog) w 42 _ a n c n' c' Try.underlying42
  go_enter Try.func75, Try.ntmps75
  go_wp2
  go_ret
  exact ⟨rfl, rfl⟩
set_option maxRecDepth 20000 in
set_option maxHeartbeats 2000000 in
theorem own49 {h : Int} {born stay : Nat} (w : World) : Calls Try.prog 49 #[lifeRule h born stay] w fun e w' => e = .returned (lifeRule h born stay) ∧ Below w.heap.size w w' := by
  go_enter Try.func49, Try.ntmps49
  go_wp2_with (first
    | (go_at_call 73; refine (clone73 _).mono ?_; rintro e w' ⟨rfl, rfl⟩)
    | (go_at_call 75; refine (clone75 _).mono ?_; rintro e w' ⟨rfl, rfl⟩))
  refine wp_loop_rounds 1 ?_
  rw [rounds_succ]
  go_wp2_with (first
    | (go_at_call 73; refine (clone73 _).mono ?_; rintro e w' ⟨rfl, rfl⟩)
    | (go_at_call 75; refine (clone75 _).mono ?_; rintro e w' ⟨rfl, rfl⟩))
  refine wp_loop_rounds 1 ?_
  rw [rounds_succ]
  go_wp2_with (first
    | (go_at_call 73; refine (clone73 _).mono ?_; rintro e w' ⟨rfl, rfl⟩)
    | (go_at_call 75; refine (clone75 _).mono ?_; rintro e w' ⟨rfl, rfl⟩))
  refine bodyPost_ret (v := lifeRule h born stay) ?_ rfl ⟨rfl, (below_new _).alloc (by simp) _⟩
  rw [results_cell1 rfl]
  go_simp

/-- The region that lays a book: what holds, however far it has come. -/
structure N7 (W : World) (rv tv : Value) (most : Nat) (L : Nat → Bool) (u0 u1 u2 u3 u4 u5 u6 : Value) (w' : World) : Prop where
  B : Below W.heap.size W w'
  l0 : L 0 = true → u0 = rv
  l1 : L 1 = true → u1 = rv
  l2 : L 2 = true → u2 = tv
  l3 : L 3 = true → u3 = .int .i64 2
  l4 : L 4 = true → u4 = .int .i64 (most : Int)
  l5 : L 5 = true → ∃ m, u5 = .map (some m) ∧ W.heap.size ≤ m ∧ MapIs Try.prog 9 w' m []
  l6 : L 6 = true → ∃ m, u6 = .map (some m) ∧ W.heap.size ≤ m ∧ MapIs Try.prog 104 w' m []
  ne : L 5 = true → L 6 = true → u5 ≠ u6
def I7 (W : World) (rv tv : Value) (most : Nat) (L : Nat → Bool) (vs : List Value) (w' : World) : Prop := ∃ u0 u1 u2 u3 u4 u5 u6, vs = [u0, u1, u2, u3, u4, u5, u6] ∧ N7 W rv tv most L u0 u1 u2 u3 u4 u5 u6 w'
theorem flag {L : Nat → Bool} {i j : Nat} (h : j ≠ i) (hl : (decide (j = i) || L j) = true) : L j = true := by simpa [h] using hl
section
variable {W w' w'' : World} {rv tv : Value} {most : Nat} {L : Nat → Bool} {u0 u1 u2 u3 u4 u5 u6 : Value}
theorem N7.start (hB : Below W.heap.size W w') : N7 W rv tv most (fun _ => false) u0 u1 u2 u3 u4 u5 u6 w' := ⟨hB, nofun, nofun, nofun, nofun, nofun, nofun, nofun, nofun⟩
theorem mapis_below {k b : Nat} {l : List (Value × Value)} (h : MapIs Try.prog k w' b l) (hb : Below w'.heap.size w' w'') : MapIs Try.prog k w'' b l := h.of_block (hb.block b h.lt)
theorem N7.s0 (h : N7 W rv tv most L u0 u1 u2 u3 u4 u5 u6 w') : N7 W rv tv most (fun j => decide (j = 0) || L j) rv u1 u2 u3 u4 u5 u6 w' :=
  ⟨h.B, fun _ => rfl, fun e => h.l1 (flag (by omega) e), fun e => h.l2 (flag (by omega) e), fun e => h.l3 (flag (by omega) e), fun e => h.l4 (flag (by omega) e), fun e => h.l5 (flag (by omega) e), fun e => h.l6 (flag (by omega) e), fun e f => h.ne (flag (by omega) e) (flag (by omega) f)⟩
theorem N7.s1 (h : N7 W rv tv most L u0 u1 u2 u3 u4 u5 u6 w') (hb : Below w'.heap.size w' w'') : N7 W rv tv most (fun j => decide (j = 1) || L j) u0 rv u2 u3 u4 u5 u6 w'' :=
  ⟨below_then h.B hb h.B.size, fun e => h.l0 (flag (by omega) e), fun _ => rfl, fun e => h.l2 (flag (by omega) e), fun e => h.l3 (flag (by omega) e), fun e => h.l4 (flag (by omega) e),
    fun e => by obtain ⟨m, h1, h2, h3⟩ := h.l5 (flag (by omega) e); exact ⟨m, h1, h2, mapis_below h3 hb⟩, fun e => by obtain ⟨m, h1, h2, h3⟩ := h.l6 (flag (by omega) e); exact ⟨m, h1, h2, mapis_below h3 hb⟩, fun e f => h.ne (flag (by omega) e) (flag (by omega) f)⟩
theorem N7.s2 (h : N7 W rv tv most L u0 u1 u2 u3 u4 u5 u6 w') : N7 W rv tv most (fun j => decide (j = 2) || L j) u0 u1 tv u3 u4 u5 u6 w' :=
  ⟨h.B, fun e => h.l0 (flag (by omega) e), fun e => h.l1 (flag (by omega) e), fun _ => rfl, fun e => h.l3 (flag (by omega) e), fun e => h.l4 (flag (by omega) e), fun e => h.l5 (flag (by omega) e), fun e => h.l6 (flag (by omega) e), fun e f => h.ne (flag (by omega) e) (flag (by omega) f)⟩
theorem N7.s3 (h : N7 W rv tv most L u0 u1 u2 u3 u4 u5 u6 w') : N7 W rv tv most (fun j => decide (j = 3) || L j) u0 u1 u2 (.int .i64 2) u4 u5 u6 w' :=
  ⟨h.B, fun e => h.l0 (flag (by omega) e), fun e => h.l1 (flag (by omega) e), fun e => h.l2 (flag (by omega) e), fun _ => rfl, fun e => h.l4 (flag (by omega) e), fun e => h.l5 (flag (by omega) e), fun e => h.l6 (flag (by omega) e), fun e f => h.ne (flag (by omega) e) (flag (by omega) f)⟩
theorem N7.s4 (h : N7 W rv tv most L u0 u1 u2 u3 u4 u5 u6 w') : N7 W rv tv most (fun j => decide (j = 4) || L j) u0 u1 u2 u3 (.int .i64 (most : Int)) u5 u6 w' :=
  ⟨h.B, fun e => h.l0 (flag (by omega) e), fun e => h.l1 (flag (by omega) e), fun e => h.l2 (flag (by omega) e), fun e => h.l3 (flag (by omega) e), fun _ => rfl, fun e => h.l5 (flag (by omega) e), fun e => h.l6 (flag (by omega) e), fun e f => h.ne (flag (by omega) e) (flag (by omega) f)⟩
theorem N7.s5 (h : N7 W rv tv most L u0 u1 u2 u3 u4 u5 u6 w') : N7 W rv tv most (fun j => decide (j = 5) || L j) u0 u1 u2 u3 u4 (.map (some w'.heap.size)) u6 (w'.alloc (.map #[] 0)) :=
  have hb : Below w'.heap.size w' (w'.alloc (.map #[] 0)) := below_new _
  ⟨below_then h.B hb h.B.size, fun e => h.l0 (flag (by omega) e), fun e => h.l1 (flag (by omega) e), fun e => h.l2 (flag (by omega) e), fun e => h.l3 (flag (by omega) e), fun e => h.l4 (flag (by omega) e),
    fun _ => ⟨_, rfl, h.B.size, MapIs.made _⟩, fun e => by obtain ⟨m, h1, h2, h3⟩ := h.l6 (flag (by omega) e); exact ⟨m, h1, h2, mapis_below h3 hb⟩,
    fun _ f e => by obtain ⟨m, h1, h2, h3⟩ := h.l6 (flag (by omega) f); have := h3.lt; rw [h1] at e; injection e with e; injection e with e; omega⟩
theorem N7.s6 (h : N7 W rv tv most L u0 u1 u2 u3 u4 u5 u6 w') : N7 W rv tv most (fun j => decide (j = 6) || L j) u0 u1 u2 u3 u4 u5 (.map (some w'.heap.size)) (w'.alloc (.map #[] 0)) :=
  have hb : Below w'.heap.size w' (w'.alloc (.map #[] 0)) := below_new _
  ⟨below_then h.B hb h.B.size, fun e => h.l0 (flag (by omega) e), fun e => h.l1 (flag (by omega) e), fun e => h.l2 (flag (by omega) e), fun e => h.l3 (flag (by omega) e), fun e => h.l4 (flag (by omega) e),
    fun e => by obtain ⟨m, h1, h2, h3⟩ := h.l5 (flag (by omega) e); exact ⟨m, h1, h2, mapis_below h3 hb⟩, fun _ => ⟨_, rfl, h.B.size, MapIs.made _⟩,
    fun f _ e => by obtain ⟨m, h1, h2, h3⟩ := h.l5 (flag (by omega) f); have := h3.lt; rw [h1] at e; injection e with e; injection e with e; omega⟩
end
end Go.Proofs.Ytigghbehnnghnaa
