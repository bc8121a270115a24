import Derived.Test.YtcbhbojplcddkaaGreatDoorRows
import Derived.Test.YtcbhbojplcddkaaGreatDoorZBitZ
import Derived.Test.YtcbhbojplcddkaaGreatDoorZRowLaw
import Derived.Lib.LaidTab
import Derived.LaidMore
import Derived.LaidHandle
import Derived.MakeChecks
import Derived.ProofKit
namespace Go.Proofs.YtcbhbojplcddkaaGreatDoor
open Go.ChangeShapes Go.WideShapes Go.RowKit Go.Joins Go.Deep Go.RowLaw
set_option linter.unusedVariables false

/-! ### The listed table: what the rows' condition gives, and a world that meets it -/
theorem own : ownKnob Tryz.prog.godebug = none := by kernel_rfl
theorem laidOut : laidOutB Tryz.prog = true := by kernel_rfl
theorem gTab : Tryz.prog.globalNamed "math/bits.deBruijn64tab" = some 0 := by kernel_rfl
def laidL : List (String × DataW Unit) := [("math/bits.deBruijn64tab", Rows.laid_math_bits_deBruijn64tab)]
theorem laidL_tab : laidL = [("math/bits.deBruijn64tab", Lib.tabData .u8 (dbt.map fun (x : Nat) => (x : Int)))] := rfl
theorem of_laid {W : World} (h : laidMetH Tryz.prog laidL W) : Tab W := by
  rw [MakeChecks.laidMetH_plain _ _ _ (by kernel_rfl), laidL_tab] at h
  have ht : Lib.TabIs Tryz.prog W "math/bits.deBruijn64tab" .u8 (dbt.map fun (x : Nat) => (x : Int)) := Lib.tabIs_of_head gTab (t := 166) (e := 5) (n := 64) (by kernel_rfl) (by kernel_rfl) Tryz.underlying5 (by kernel_rfl) (by kernel_rfl) h
  intro i hi
  have := ht.cell gTab i (by simpa [dbt] using hi)
  rw [this]
  congr 2
  have hi' : i < dbt.length := by simpa [dbt] using hi
  simp [hi']
theorem door_met (os : Os) (args : Array Value) : laidMetH Tryz.prog laidL ((World.doorLaid Tryz.prog 400 os).forCall (fun _ _ => 0) ⟨#[], args, []⟩).memory :=
  laidMetH_of_parts3 (fuel := 8) (laidMet_of_run' 8 (by kernel_rfl) (by kernel_rfl)) (by kernel_rfl) (by kernel_rfl)
end Go.Proofs.YtcbhbojplcddkaaGreatDoor
