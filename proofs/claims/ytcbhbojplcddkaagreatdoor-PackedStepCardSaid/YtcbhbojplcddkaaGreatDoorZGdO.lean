import Derived.Test.YtcbhbojplcddkaaGreatDoorZGdN
namespace Go.Proofs.YtcbhbojplcddkaaGreatDoor
open Go.RowKit Go.RowBits Go.Shelf Go.ColD
set_option linter.unusedSimpArgs false
set_option linter.unusedVariables false
attribute [local go_sem] Oper.semAt_some

/-! ### packed.Run where it may not, and packed.Next -/
def RunBad (W0 : World) (A : Prop) (e : Ending) (w' : World) : Prop := ∃ r : Int, e = .returned (.tuple #[.pointer none, .int .i64 r]) ∧ r ≠ 0 ∧ (A → r = 4) ∧ Below W0.heap.size W0 w'
section
variable {B E : Nat} {W0 : World} {fb w h s : Nat} {pk : Bool} {c : Nat → Nat → Nat} {hd : Int} {born stay : Nat} {k tn sh W H n : Int}
set_option maxRecDepth 100000 in
set_option maxHeartbeats 8000000 in
theorem run7bad (f : Fld B E W0 fb w h s pk c) (hb1 : born < 65536) (hs1 : stay < 65536) (hk : 0 ≤ k ∧ k < 256) (ht : 0 ≤ tn) (hbad : MayA hd born stay k W H tn sh w h s n → 67108864 / ((w : Int) * (h : Int)) < n) :
    Calls Tryz.prog 6 #[lifeV hd born stay, topoV k W H tn sh, .pointer (some ⟨fb, 0, none⟩), .int .i64 n] W0 (RunBad W0 (MayA hd born stay k W H tn sh w h s n)) := by
  obtain ⟨W2, hW2⟩ : ∃ W2, Hid (W2 = (W0.alloc (.cells #[.int .u8 hd, .int .u16 (born : Int), .int .u16 (stay : Int)] 24)).alloc (.cells #[.int .u8 k, .int .i64 W, .int .i64 H, .int .u8 tn, .int .i64 sh] 26)) := ⟨_, rfl⟩
  have hB2 : Hid (Below W0.heap.size W0 W2) := by rw [hW2.out]; exact (below_new _).alloc (by simp) _
  have KM := Lib.hid (may19 (W := W) (H := H) (sh := sh) (n := n) (hd := hd) (f.kept hB2.out) hb1 hs1 hk ht)
  have hbad' := Lib.hid hbad
  clear f hbad
  refine (callsIn_wide (n := 8)).1 ?_
  refine callsIn_of_wp_marks Tryz.func6 rfl trivial ?_ rfl
  simp only [Tryz.ntmps6, List.size_toArray, List.length_cons, List.length_nil, Nat.reduceAdd, Nat.reduceSub, Array.replicate_succ, Array.replicate_zero, List.push_toArray, List.append_toArray, List.nil_append, List.cons_append]
  gi_wp2_with fail
  rw [← hW2.out]
  refine ⟨trivial, callsIn_wide.2 ((KM.out).mono ?_)⟩
  rintro e w3 ⟨r, rfl, _, h2, h1, hb3⟩
  have hne : ¬ r = 0 := fun e => by
    by_cases hA : MayA hd born stay k W H tn sh w h s n
    · have := h2 hA (Int.not_le.2 (hbad'.out hA)); omega
    · exact h1 hA e
  have h2' := Lib.hid h2
  have hB3 := Lib.hid (below_then hB2.out hb3 hB2.out.size)
  clear hb3 h1 h2 KM
  gi_wp2_with fail
  refine ⟨_, results_tmp2 rfl _ _ _, ?_⟩
  exact ⟨r, rfl, hne, fun hA => h2'.out hA (hbad'.out hA), hB3.out⟩
end
end Go.Proofs.YtcbhbojplcddkaaGreatDoor
namespace Go.Proofs.YtcbhbojplcddkaaGreatDoor
open Go.RowKit Go.RowBits Go.Shelf
set_option linter.unusedSimpArgs false
set_option linter.unusedVariables false

/-! ### packed.Next: Run of one generation -/
section
variable {W0 : World} {hd : Int} {born stay : Nat} {k tn sh W H : Int} {fv : Value} {R : Value → Value → World → World → Prop}
set_option maxRecDepth 20000 in
set_option maxHeartbeats 2000000 in
theorem next11 (K : ∀ W', Below W0.heap.size W0 W' → Calls Tryz.prog 6 #[lifeV hd born stay, topoV k W H tn sh, fv, .int .i64 1] W' fun e w' => ∃ v1 v2, e = .returned (.tuple #[v1, v2]) ∧ R v1 v2 W' w') :
    Calls Tryz.prog 12 #[lifeV hd born stay, topoV k W H tn sh, fv] W0 fun e w' => ∃ W' v1 v2, Below W0.heap.size W0 W' ∧ e = .returned (.tuple #[v1, v2]) ∧ R v1 v2 W' w' := by
  obtain ⟨W2, hW2⟩ : ∃ W2, Hid (W2 = (W0.alloc (.cells #[.int .u8 hd, .int .u16 (born : Int), .int .u16 (stay : Int)] 24)).alloc (.cells #[.int .u8 k, .int .i64 W, .int .i64 H, .int .u8 tn, .int .i64 sh] 26)) := ⟨_, rfl⟩
  have hB2 : Hid (Below W0.heap.size W0 W2) := by rw [hW2.out]; exact (below_new _).alloc (by simp) _
  have K2 := Lib.hid (K W2 hB2.out)
  clear K
  go_enter Tryz.func12, Tryz.ntmps12
  go_wp2_with fail
  rw [← hW2.out]
  refine (K2.out).mono ?_
  rintro e w3 ⟨v1, v2, rfl, hR⟩
  have hR' := Lib.hid hR
  clear hR K2
  go_wp2
  go_ret2
  exact ⟨_, _, _, hB2.out, rfl, hR'.out⟩
end
end Go.Proofs.YtcbhbojplcddkaaGreatDoor
namespace Go.Proofs.YtcbhbojplcddkaaGreatDoor
open Go.RowKit Go.RowBits Go.Shelf
set_option linter.unusedSimpArgs false
set_option linter.unusedVariables false
attribute [local go_sem] Oper.semAt_some

/-! ### packed.may and packed.Run of a field that has no cells -/
section
variable {W0 : World} {hd : Int} {born stay : Nat} {k tn sh W H n : Int} {fv : Value}
set_option maxRecDepth 20000 in
set_option maxHeartbeats 2000000 in
theorem may19none (K : ∀ W', Below W0.heap.size W0 W' → Calls Tryz.prog 40 #[fv] W' fun e w' => e = .returned (.int .i64 0) ∧ w' = W') :
    Calls Tryz.prog 20 #[lifeV hd born stay, topoV k W H tn sh, fv, .int .i64 n] W0 fun e w' => e = .returned (.int .i64 1) ∧ Below W0.heap.size W0 w' := by
  obtain ⟨W2, hW2⟩ : ∃ W2, Hid (W2 = (W0.alloc (.cells #[.int .u8 hd, .int .u16 (born : Int), .int .u16 (stay : Int)] 24)).alloc (.cells #[.int .u8 k, .int .i64 W, .int .i64 H, .int .u8 tn, .int .i64 sh] 26)) := ⟨_, rfl⟩
  have hB2 : Hid (Below W0.heap.size W0 W2) := by rw [hW2.out]; exact (below_new _).alloc (by simp) _
  have K2 := Lib.hid (K W2 hB2.out)
  clear K
  go_enter Tryz.func20, Tryz.ntmps20
  go_wp2_with fail
  rw [← hW2.out]
  refine (K2.out).mono ?_
  rintro e wq ⟨rfl, hwq⟩
  subst wq
  clear K2
  go_wp2
  go_ret
  exact ⟨rfl, hB2.out⟩
set_option maxRecDepth 100000 in
set_option maxHeartbeats 8000000 in
theorem run7none (K : ∀ W', Below W0.heap.size W0 W' → Calls Tryz.prog 40 #[fv] W' fun e w' => e = .returned (.int .i64 0) ∧ w' = W') :
    Calls Tryz.prog 6 #[lifeV hd born stay, topoV k W H tn sh, fv, .int .i64 n] W0 fun e w' => e = .returned (.tuple #[.pointer none, .int .i64 1]) ∧ Below W0.heap.size W0 w' := by
  obtain ⟨W2, hW2⟩ : ∃ W2, Hid (W2 = (W0.alloc (.cells #[.int .u8 hd, .int .u16 (born : Int), .int .u16 (stay : Int)] 24)).alloc (.cells #[.int .u8 k, .int .i64 W, .int .i64 H, .int .u8 tn, .int .i64 sh] 26)) := ⟨_, rfl⟩
  have hB2 : Hid (Below W0.heap.size W0 W2) := by rw [hW2.out]; exact (below_new _).alloc (by simp) _
  have KM := Lib.hid (may19none (W0 := W2) (W := W) (H := H) (sh := sh) (n := n) (hd := hd) (born := born) (stay := stay) (k := k) (tn := tn) (fv := fv) fun W' hb => K W' (below_then hB2.out hb hB2.out.size))
  clear K
  refine (callsIn_wide (n := 8)).1 ?_
  refine callsIn_of_wp_marks Tryz.func6 rfl trivial ?_ rfl
  simp only [Tryz.ntmps6, List.size_toArray, List.length_cons, List.length_nil, Nat.reduceAdd, Nat.reduceSub, Array.replicate_succ, Array.replicate_zero, List.push_toArray, List.append_toArray, List.nil_append, List.cons_append]
  gi_wp2_with fail
  rw [← hW2.out]
  refine ⟨trivial, callsIn_wide.2 ((KM.out).mono ?_)⟩
  rintro e w3 ⟨rfl, hb3⟩
  have hB3 := Lib.hid (below_then hB2.out hb3 hB2.out.size)
  clear hb3 KM
  gi_wp2_with fail
  refine ⟨_, results_tmp2 rfl _ _ _, ?_⟩
  exact ⟨rfl, hB3.out⟩
end
end Go.Proofs.YtcbhbojplcddkaaGreatDoor
namespace Go.Proofs.YtcbhbojplcddkaaGreatDoor
open Go.RowKit Go.RowBits Go.Shelf
set_option linter.unusedSimpArgs false
set_option linter.unusedVariables false
theorem w37n (W : World) : Calls Tryz.prog 40 #[.pointer none] W fun e w' => e = .returned (.int .i64 0) ∧ w' = W := by
  have K := Lib.hid (none33n W)
  go_enter Tryz.func40, Tryz.ntmps40
  go_wp2_with fail
  refine (K.out).mono ?_
  rintro e w' ⟨rfl, hw'⟩
  subst w'
  go_wp2
  go_ret
  exact ⟨rfl, rfl⟩
theorem w37z {W : World} {fb : Nat} (hc : W.cell? ⟨fb, 4, none⟩ = some .nilIface) : Calls Tryz.prog 40 #[.pointer (some ⟨fb, 0, none⟩)] W fun e w' => e = .returned (.int .i64 0) ∧ w' = W := by
  have K := Lib.hid (none33z hc)
  clear hc
  go_enter Tryz.func40, Tryz.ntmps40
  go_wp2_with fail
  refine (K.out).mono ?_
  rintro e w' ⟨rfl, hw'⟩
  subst w'
  go_wp2
  go_ret
  exact ⟨rfl, rfl⟩
end Go.Proofs.YtcbhbojplcddkaaGreatDoor
namespace Go.Proofs.YtcbhbojplcddkaaGreatDoor
open Go.RowKit Go.RowBits Go.Shelf
set_option linter.unusedSimpArgs false
set_option linter.unusedVariables false
theorem conway9 (W : World) : Calls Tryz.prog 13 #[] W fun e w' => e = .returned (lifeV 1 8 12) ∧ Below W.heap.size W w' := by
  go_enter Tryz.func13, Tryz.ntmps13
  go_wp2
  refine bodyPost_ret (v := lifeV 1 8 12) ?_ rfl ⟨rfl, below_new _⟩
  rw [results_cell1 rfl]
  go_simp
end Go.Proofs.YtcbhbojplcddkaaGreatDoor
namespace Go.Proofs.YtcbhbojplcddkaaGreatDoor
open Go.RowKit Go.RowBits Go.Shelf
set_option linter.unusedSimpArgs false
set_option linter.unusedVariables false

/-! ### alive: what its plane comes to -/
/-- The three live cells in the middle row. -/
def cA : Nat → Nat → Nat := updK (fun _ _ => 0) 1 [1, 1, 1] 3
theorem may_alive : MayA 1 8 12 1 ((3 : Nat) : Int) ((3 : Nat) : Int) 0 0 3 3 2 ((1 : Nat) : Int) := by
  refine ⟨?_, ?_, by decide, by decide, rfl, rfl, rfl⟩
  · unfold lifeE
    have : ruleOk 1 8 12 := by
      intro j hj hj2
      rw [offs_1] at hj
      have : 8 < j := hj
      obtain rfl | rfl | rfl | rfl | rfl | rfl | rfl : j = 9 ∨ j = 10 ∨ j = 11 ∨ j = 12 ∨ j = 13 ∨ j = 14 ∨ j = 15 := by omega
      all_goals decide
    rw [if_pos (.inl rfl), if_pos this]
  · unfold TopoOk
    decide
theorem step_alive : ∀ y, y < 3 → ∀ x, x < 3 → stepC 1 8 12 1 0 0 3 3 cA y x = if x = 1 then 1 else 0 := by decide
end Go.Proofs.YtcbhbojplcddkaaGreatDoor
