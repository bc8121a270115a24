import Derived.Test.YtigghbehnnghnaaRlR
namespace Go.Proofs.Ytigghbehnnghnaa
open Go.RowKit Go.RowBits Go.MapRaw Go.Maps
set_option linter.unusedSimpArgs false
set_option linter.unusedVariables false

/-! ### What the law's first lines come to -/
def P0 : BP := ⟨1, 8, 12, 2, 4, 3⟩
def rows1 : List (List Nat) := [[0, 0, 0, 0]]
def rows2 : List (List Nat) := [[0, 0, 0, 0], [1, 1, 1, 0]]
def rows3 : List (List Nat) := [[0, 0, 0, 0], [1, 1, 1, 0], [0, 1, 0, 0]]
theorem fa1 : after rows1 3 [1, 1, 1, 0] = rows2 ∧ idOf rows1 3 [1, 1, 1, 0] = 1 ∧ errOf rows1 3 [1, 1, 1, 0] = 0 := by decide
theorem fa2 : nextRow P0 rows2 0 1 0 = [0, 1, 0, 0] := by decide +kernel
theorem fa3 : after rows2 3 [0, 1, 0, 0] = rows3 ∧ idOf rows2 3 [0, 1, 0, 0] = 2 ∧ errOf rows2 3 [0, 1, 0, 0] = 0 := by decide
theorem fa4 : after rows3 3 [1, 1, 1, 1] = rows3 ∧ idOf rows3 3 [1, 1, 1, 1] = 0 ∧ errOf rows3 3 [1, 1, 1, 1] = 4 := by decide
end Go.Proofs.Ytigghbehnnghnaa
