/-
  DERIVED. GIVEN WITH THE SEED: THE CARDS: each row of YtcbhbojplcddkaaGreatDoorRows.lean that lists a variable, with what it lists TIED to the program's text (the seventh form; the later family's looks); each row that meets fmt, with fmt's text TOLD by the authors' own Lean function (tested against real Go, not proved from fmt's source: count such statements apart). THE CARD IS WHAT COUNTS. Prove the row's statement (the work); the ties are given (YtcbhbojplcddkaaGreatDoorTie.lean); close each card by the builder's one call (the guide's Derived/Test/ToyasCard.lean, 'card_holds'). Laid BY PROGRAM, IN A SANDBOX (cutbox-door.mjs). By AI agents, Wed Nov 11 2026. No macro, syntax, notation, axiom, sorry.
-/
import Derived.Test.YtcbhbojplcddkaaGreatDoorRows
import GoSem.ClaimSeven
namespace Go.Proofs.YtcbhbojplcddkaaGreatDoor
namespace Rows

/-- THE TIED CARD OF 'vivariumlaw16.PackedStep'. -/
def packedStepCard : Claim7 := { stood := { row := packedStepRow, standIns := [], harness := (true, "093e6c7869338eca7c4baa0b45361f4ef3c2ec3d37ab92e6656ec25ee5a79218"), looks := false }, kinds := [], alts := [], laidByText := true, laidKinds := [.data], laidTests := true, laidLooks := .later }
def PackedStepCardSaid : Prop := Claim7.holds Tryz.pinned (.plain (OpenSpec.ofChange packedStepSpec)) packedStepCard

/-- THE SECOND FORM's CARD OF 'vivariumlaw16.PackedStep'. -/
def packedStepUptoCard : Claim7 := { stood := { row := packedStepUptoRow, standIns := [], harness := (true, "093e6c7869338eca7c4baa0b45361f4ef3c2ec3d37ab92e6656ec25ee5a79218"), looks := false }, kinds := [], alts := [], laidByText := true, laidKinds := [.data], laidTests := true, laidLooks := .later }
def PackedStepUptoCardSaid : Prop := Claim7.holds Tryz.pinned (.plain (OpenSpec.upto packedStepSpec)) packedStepUptoCard
end Rows
end Go.Proofs.YtcbhbojplcddkaaGreatDoor
