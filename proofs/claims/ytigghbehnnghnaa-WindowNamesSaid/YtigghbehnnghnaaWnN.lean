import Derived.Test.YtigghbehnnghnaaWnM
namespace Go.Proofs.Ytigghbehnnghnaa
open Go.RowKit Go.RowBits
set_option linter.unusedSimpArgs false
set_option linter.unusedVariables false

/-! ### What the law's first lines come to -/
theorem conway_ok : ruleOk 1 8 12 := by
  intro j hj hj2
  rw [offs_1] at hj
  have : 8 < j := hj
  obtain rfl | rfl | rfl | rfl | rfl | rfl | rfl : j = 9 ∨ j = 10 ∨ j = 11 ∨ j = 12 ∨ j = 13 ∨ j = 14 ∨ j = 15 := by omega
  all_goals decide
theorem conway_E : lifeE 1 8 12 = 0 := by
  unfold lifeE
  rw [if_pos (.inl rfl), if_pos conway_ok]
theorem strip_four : Strip 1 8 12 2 ((4 : Nat) : Int) := ⟨by omega, by omega, conway_E, .inl rfl, conway_ok, by decide, .inr rfl, by omega⟩
def C1 : List (List Nat) := [[1, 1, 1, 0]]
def C3 : List (List Nat) := [[0, 1, 0, 0], [0, 1, 0, 0], [0, 1, 0, 0]]
theorem c_step : stepRows (lifeNx 8 12) 1 2 4 C1 = C3 := by decide +kernel
theorem c_line : winG (lifeNx 8 12) 1 2 4 (fun i => if i = 0 then [1, 1, 0, 1] else [0, 0, 0, 0]) = [1, 0, 0, 0] := by decide +kernel
theorem c_tr1 : Tr C1 0 1 := ⟨by decide, fun j hj => by omega, fun j hj hj2 => by have : j < 1 := hj2; omega, .inr ⟨by decide, by decide, by decide⟩⟩
theorem c_tr3 : Tr C3 0 3 := ⟨by decide, fun j hj => by omega, fun j hj hj2 => by have : j < 3 := hj2; omega, .inr ⟨by decide, by decide, by decide⟩⟩
theorem c_steps : StepsR (lifeNx 8 12) 1 2 4 1 0 C1 (-1) C3 := ⟨0, C1, ⟨rfl, rfl⟩, .inr ⟨by decide, 0, 3, by rw [c_step]; exact c_tr3, by decide, by rw [c_step]; rfl⟩⟩
theorem c_ok : BandOk 2 4 0 C1 := ⟨fun i hi => by
    have : i < 1 := hi
    obtain rfl : i = 0 := by omega
    rfl, fun i j hi => by
    have : i < 1 := hi
    obtain rfl : i = 0 := by omega
    match j with
    | 0 | 1 | 2 | 3 => decide
    | (j + 4) => show ([1, 1, 1, 0] : List Nat).getD (j + 4) 0 < 2; simp, fun _ => ⟨by decide, by decide⟩⟩
theorem nextC (W : World) (v : Value) (hv : HasL W v C1) : Calls Try.prog 34 #[lifeRule 1 8 12, topoV 2 4 0, bandV 4 0 v] W fun e w' => (∃ x c, e = .returned (.tuple #[bandV 4 (-1) (.slice x 3 c), .int .i64 0]) ∧ HasL w' (.slice x 3 c) C3) ∧ Below W.heap.size W w' := by
  have h := next34G (r := lifeR 1 8 12) (w := W) (at' := 0) (rows := C1) (k0 := 0) (m0 := 1) (a0 := 0) (by decide) (stripG_life strip_four W) (Below.refl _ _) (by decide) hv c_ok c_tr1 (by decide) (fun _ => ⟨by decide, by decide⟩)
  refine h.mono ?_
  rintro e w' ⟨a, R, v', hst, he, hO, hb⟩
  have hcut : cut C1 0 1 = C1 := rfl
  rw [hcut] at hst
  obtain ⟨rfl, rfl⟩ := hst.uniq c_steps
  obtain ⟨x, c, e1, _⟩ := hO.has
  have e1 : v' = .slice x 3 c := e1
  subst e1
  exact ⟨⟨x, c, he, hO.has⟩, hb⟩
theorem runC (W : World) (v : Value) (hv : HasL W v C1) : Calls Try.prog 30 #[lifeRule 1 8 12, topoV 2 4 0, bandV 4 0 v, .int .i64 131072] W fun e w' => e = .returned (.tuple #[bandV 0 0 (.slice none 0 0), .int .i64 4]) ∧ Below W.heap.size W w' :=
  run30_budget (r := lifeR 1 8 12) (w := W) (at' := 0) (rows := C1) (k0 := 0) (m0 := 1) (a0 := 0) (N := 131072) (by decide) (stripG_life strip_four W) (Below.refl _ _) (by decide) hv c_ok c_tr1 (by omega) (by decide) (fun _ => ⟨by decide, by decide⟩)
theorem lineC (W : World) {g0 g1 g2 : Nat} (h0 : YBlk W g0 [1, 1, 0, 1]) (h1 : YBlk W g1 [0, 0, 0, 0]) (h2 : YBlk W g2 [0, 0, 0, 0]) :
    Calls Try.prog 27 #[lifeRule 1 8 12, topoV 2 4 0, .slice (some ⟨g0, 0, none⟩) 4 4, .slice (some ⟨g1, 0, none⟩) 4 4, .slice (some ⟨g2, 0, none⟩) 4 4] W fun e w' => (∃ g, e = .returned (.tuple #[.slice (some ⟨g, 0, none⟩) 4 4, .int .i64 0]) ∧ YBlk w' g [1, 0, 0, 0]) ∧ Below W.heap.size W w' := by
  have h := line27G (r := lifeR 1 8 12) (w := W) (n := 4) (R := fun i => if i = 0 then [1, 1, 0, 1] else [0, 0, 0, 0]) (fun i => if i = 0 then some ⟨g0, 0, none⟩ else if i = 1 then some ⟨g1, 0, none⟩ else some ⟨g2, 0, none⟩) (fun _ => 4) (stripG_life strip_four W) (Below.refl _ _) (fun i hi => by
    match i, hi with
    | 0, _ => exact h0.has
    | 1, _ => exact h1.has
    | 2, _ => exact h2.has) (fun i hi => by
    match i, hi with
    | 0, _ | 1, _ | 2, _ => rfl) (fun i j hi => by
    match i, hi with
    | 0, _ => match j with
      | 0 | 1 | 2 | 3 => decide
      | (j + 4) => show ([1, 1, 0, 1] : List Nat).getD (j + 4) 0 < 2; simp
    | 1, _ | 2, _ => match j with
      | 0 | 1 | 2 | 3 => decide
      | (j + 4) => show ([0, 0, 0, 0] : List Nat).getD (j + 4) 0 < 2; simp)
  refine h.mono ?_
  rintro e w' ⟨g, he, _, hY, hb⟩
  rw [show winG (lifeNx 8 12) 1 2 4 (fun i => if i = 0 then [1, 1, 0, 1] else [0, 0, 0, 0]) = [1, 0, 0, 0] from c_line] at hY
  exact ⟨⟨g, he, hY⟩, hb⟩
end Go.Proofs.Ytigghbehnnghnaa
