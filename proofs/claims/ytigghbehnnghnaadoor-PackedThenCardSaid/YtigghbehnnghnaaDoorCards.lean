/-
  DERIVED. GIVEN WITH THE SEED: THE CARDS: each row of YtigghbehnnghnaaDoorRows.lean that lists a variable, with what it lists TIED to the program's text (the seventh form; the later family's looks); each row that meets fmt, with fmt's text TOLD by the authors' own Lean function (tested against real Go, not proved from fmt's source: count such statements apart). THE CARD IS WHAT COUNTS. Prove the row's statement (the work); the ties are given (YtigghbehnnghnaaDoorTie.lean); close each card by the builder's one call (the guide's Derived/Test/ToyasCard.lean, 'card_holds'). Laid BY PROGRAM, IN A SANDBOX (cutbox-door.mjs). By AI agents, Wed Nov 11 2026. No macro, syntax, notation, axiom, sorry.
-/
import Derived.Test.YtigghbehnnghnaaDoorRows
import GoSem.ClaimSeven
namespace Go.Proofs.YtigghbehnnghnaaDoor
namespace Rows

/-- THE TIED CARD OF 'vivariumlaw16.PackedNames'. -/
def packedNamesCard : Claim7 := { stood := { row := packedNamesRow, standIns := [], harness := (true, "d8358bc9aaa583f8021723eef0de98273efcc6301a0e6f92c0457f6d300b3f8d"), looks := false }, kinds := [], alts := [], laidByText := true, laidKinds := [.data], laidTests := true, laidLooks := .later }
def PackedNamesCardSaid : Prop := Claim7.holds Tryd.pinned (.plain (OpenSpec.ofChange packedNamesSpec)) packedNamesCard

/-- THE TIED CARD OF 'vivariumlaw16.PackedNone'. -/
def packedNoneCard : Claim7 := { stood := { row := packedNoneRow, standIns := [], harness := (true, "d8358bc9aaa583f8021723eef0de98273efcc6301a0e6f92c0457f6d300b3f8d"), looks := false }, kinds := [], alts := [], laidByText := true, laidKinds := [.data], laidTests := true, laidLooks := .later }
def PackedNoneCardSaid : Prop := Claim7.holds Tryd.pinned (.plain (OpenSpec.ofChange packedNoneSpec)) packedNoneCard

/-- THE TIED CARD OF 'vivariumlaw16.PackedThen'. -/
def packedThenCard : Claim7 := { stood := { row := packedThenRow, standIns := [], harness := (true, "d8358bc9aaa583f8021723eef0de98273efcc6301a0e6f92c0457f6d300b3f8d"), looks := false }, kinds := [], alts := [], laidByText := true, laidKinds := [.data], laidTests := true, laidLooks := .later }
def PackedThenCardSaid : Prop := Claim7.holds Tryd.pinned (.plain (OpenSpec.ofChange packedThenSpec)) packedThenCard

/-- THE TIED CARD OF 'vivariumlaw16.PackedTurned'. -/
def packedTurnedCard : Claim7 := { stood := { row := packedTurnedRow, standIns := [], harness := (true, "d8358bc9aaa583f8021723eef0de98273efcc6301a0e6f92c0457f6d300b3f8d"), looks := false }, kinds := [], alts := [], laidByText := true, laidKinds := [.data], laidTests := true, laidLooks := .later }
def PackedTurnedCardSaid : Prop := Claim7.holds Tryd.pinned (.plain (OpenSpec.ofChange packedTurnedSpec)) packedTurnedCard

/-- THE SECOND FORM's CARD OF 'vivariumlaw16.PackedNames'. -/
def packedNamesUptoCard : Claim7 := { stood := { row := packedNamesUptoRow, standIns := [], harness := (true, "d8358bc9aaa583f8021723eef0de98273efcc6301a0e6f92c0457f6d300b3f8d"), looks := false }, kinds := [], alts := [], laidByText := true, laidKinds := [.data], laidTests := true, laidLooks := .later }
def PackedNamesUptoCardSaid : Prop := Claim7.holds Tryd.pinned (.plain (OpenSpec.upto packedNamesSpec)) packedNamesUptoCard

/-- THE SECOND FORM's CARD OF 'vivariumlaw16.PackedNone'. -/
def packedNoneUptoCard : Claim7 := { stood := { row := packedNoneUptoRow, standIns := [], harness := (true, "d8358bc9aaa583f8021723eef0de98273efcc6301a0e6f92c0457f6d300b3f8d"), looks := false }, kinds := [], alts := [], laidByText := true, laidKinds := [.data], laidTests := true, laidLooks := .later }
def PackedNoneUptoCardSaid : Prop := Claim7.holds Tryd.pinned (.plain (OpenSpec.upto packedNoneSpec)) packedNoneUptoCard

/-- THE SECOND FORM's CARD OF 'vivariumlaw16.PackedThen'. -/
def packedThenUptoCard : Claim7 := { stood := { row := packedThenUptoRow, standIns := [], harness := (true, "d8358bc9aaa583f8021723eef0de98273efcc6301a0e6f92c0457f6d300b3f8d"), looks := false }, kinds := [], alts := [], laidByText := true, laidKinds := [.data], laidTests := true, laidLooks := .later }
def PackedThenUptoCardSaid : Prop := Claim7.holds Tryd.pinned (.plain (OpenSpec.upto packedThenSpec)) packedThenUptoCard

/-- THE SECOND FORM's CARD OF 'vivariumlaw16.PackedTurned'. -/
def packedTurnedUptoCard : Claim7 := { stood := { row := packedTurnedUptoRow, standIns := [], harness := (true, "d8358bc9aaa583f8021723eef0de98273efcc6301a0e6f92c0457f6d300b3f8d"), looks := false }, kinds := [], alts := [], laidByText := true, laidKinds := [.data], laidTests := true, laidLooks := .later }
def PackedTurnedUptoCardSaid : Prop := Claim7.holds Tryd.pinned (.plain (OpenSpec.upto packedTurnedSpec)) packedTurnedUptoCard
end Rows
end Go.Proofs.YtigghbehnnghnaaDoor
