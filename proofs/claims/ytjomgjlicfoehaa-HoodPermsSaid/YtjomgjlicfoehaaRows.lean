/-
  No cell of these rows narrows 'for every input' (looked for: loops, veiled, ifaces, maps, wideKeys, modest, calm, conditions, laid).
  DERIVED. THE GIVEN ROWS OF THIS SEAT. 16 by the template 'for every input the law returns true; each argument reads behind the call as it read before'; 0 by the template 'total and deterministic' (their statements: YtjomgjlicfoehaaTotals.lean).
  GIVEN WITH THE SEED: the statements are not yours to turn. If you find one false, say at which input.
  Laid BY PROGRAM, IN A SANDBOX (cutbox-rows.mjs): the forced cells as the released guide's own fill.sh prints them over the translation 2e574d9547f5cc96… (all of the seat's roots in one cut). By AI agents, Wed Nov 11 2026. No macro, syntax, notation, axiom, sorry.
-/
import Derived.Test.YtjomgjlicfoehaaChecked
import GoSem.Claim
import GoSem.ClaimJoined
import GoSem.ClaimMapViews
import Derived.JoinedTies
import Derived.KernelRfl
namespace Go.Proofs.Ytjomgjlicfoehaa
/- THE CELL 'sum', in the pinned program and in every row, IS THE sha256 OF THE DUMP (.gsa) THAT YtjomgjlicfoehaaProg.lean LOADS. Nothing in Lean hashes anything: it is a label: what it is worth is what the hold of that sum in a sandbox is worth. -/
noncomputable def Try.pinned : Pinned := { name := "ytjomgjlicfoehaa", sum := "2e574d9547f5cc96b956013432b6274422be51f864204fb914c74dd868a577e2", checked := Try.checked }
namespace Rows
def none {H : Type} : Left H := { results := [], args := [] }

/-- 'vivariumlaw07.HoodOffsets': WHATEVER THE INPUT: true; the input reads as it did. -/
def hoodOffsetsSpec : ChangeSpec := { name := "hoodOffsets", fn := fun _ => fun
  | [d] => { results := [.lit (.bool true)], args := [d] }
  | _ => none }
def hoodOffsetsRow : OpenClaim := { program := "ytjomgjlicfoehaa", sum := "2e574d9547f5cc96b956013432b6274422be51f864204fb914c74dd868a577e2", func := "vivarium/vivariumlaw07.HoodOffsets", spec := "hoodOffsets", apart := false }
def HoodOffsetsSaid : Prop := hoodOffsetsRow.holds Try.pinned (OpenSpec.ofChange hoodOffsetsSpec)

/-- ITS FALSE NEIGHBOUR: 'it returns false'. Refute it at one input. -/
def hoodOffsetsWrong : ChangeSpec := { name := "hoodOffsets", fn := fun _ => fun
  | [d] => { results := [.lit (.bool false)], args := [d] }
  | _ => none }
def HoodOffsetsWrongFalsely : Prop := hoodOffsetsRow.holds Try.pinned (OpenSpec.ofChange hoodOffsetsWrong)

/-- 'vivariumlaw05.IsoAts': WHATEVER THE INPUT: true; the input reads as it did. -/
def isoAtsSpec : ChangeSpec := { name := "isoAts", fn := fun _ => fun
  | [d1, d2] => { results := [.lit (.bool true)], args := [d1, d2] }
  | _ => none }
def isoAtsRow : OpenClaim := { program := "ytjomgjlicfoehaa", sum := "2e574d9547f5cc96b956013432b6274422be51f864204fb914c74dd868a577e2", func := "vivarium/vivariumlaw05.IsoAts", spec := "isoAts", apart := false }
def IsoAtsSaid : Prop := isoAtsRow.holds Try.pinned (OpenSpec.ofChange isoAtsSpec)

/-- ITS FALSE NEIGHBOUR: 'it returns false'. Refute it at one input. -/
def isoAtsWrong : ChangeSpec := { name := "isoAts", fn := fun _ => fun
  | [d1, d2] => { results := [.lit (.bool false)], args := [d1, d2] }
  | _ => none }
def IsoAtsWrongFalsely : Prop := isoAtsRow.holds Try.pinned (OpenSpec.ofChange isoAtsWrong)

/-- 'vivariumlaw05.IsoNames': WHATEVER THE INPUT: true; the input reads as it did. -/
def isoNamesSpec : ChangeSpec := { name := "isoNames", fn := fun _ => fun
  | [] => { results := [.lit (.bool true)], args := [] }
  | _ => none }
def isoNamesRow : OpenClaim := { program := "ytjomgjlicfoehaa", sum := "2e574d9547f5cc96b956013432b6274422be51f864204fb914c74dd868a577e2", func := "vivarium/vivariumlaw05.IsoNames", spec := "isoNames", apart := false }
def IsoNamesSaid : Prop := isoNamesRow.holds Try.pinned (OpenSpec.ofChange isoNamesSpec)

/-- ITS FALSE NEIGHBOUR: 'it returns false'. Refute it at one input. -/
def isoNamesWrong : ChangeSpec := { name := "isoNames", fn := fun _ => fun
  | [] => { results := [.lit (.bool false)], args := [] }
  | _ => none }
def IsoNamesWrongFalsely : Prop := isoNamesRow.holds Try.pinned (OpenSpec.ofChange isoNamesWrong)

/-- 'vivariumlaw05.IsoKeeps': WHATEVER THE INPUT: true; the input reads as it did. -/
def isoKeepsSpec : ChangeSpec := { name := "isoKeeps", fn := fun _ => fun
  | [d1, d2, d3] => { results := [.lit (.bool true)], args := [d1, d2, d3] }
  | _ => none }
def isoKeepsRow : OpenClaim := { program := "ytjomgjlicfoehaa", sum := "2e574d9547f5cc96b956013432b6274422be51f864204fb914c74dd868a577e2", func := "vivarium/vivariumlaw05.IsoKeeps", spec := "isoKeeps", apart := false }
def IsoKeepsSaid : Prop := isoKeepsRow.holds Try.pinned (OpenSpec.ofChange isoKeepsSpec)

/-- ITS FALSE NEIGHBOUR: 'it returns false'. Refute it at one input. -/
def isoKeepsWrong : ChangeSpec := { name := "isoKeeps", fn := fun _ => fun
  | [d1, d2, d3] => { results := [.lit (.bool false)], args := [d1, d2, d3] }
  | _ => none }
def IsoKeepsWrongFalsely : Prop := isoKeepsRow.holds Try.pinned (OpenSpec.ofChange isoKeepsWrong)

/-- 'vivariumlaw05.IsoShifts': WHATEVER THE INPUT: true; the input reads as it did. -/
def isoShiftsSpec : ChangeSpec := { name := "isoShifts", fn := fun _ => fun
  | [d1, d2] => { results := [.lit (.bool true)], args := [d1, d2] }
  | _ => none }
def isoShiftsRow : OpenClaim := { program := "ytjomgjlicfoehaa", sum := "2e574d9547f5cc96b956013432b6274422be51f864204fb914c74dd868a577e2", func := "vivarium/vivariumlaw05.IsoShifts", spec := "isoShifts", inPlace := ["math.Float64bits"], apart := false }
def IsoShiftsSaid : Prop := isoShiftsRow.holds Try.pinned (OpenSpec.ofChange isoShiftsSpec)

/-- ITS FALSE NEIGHBOUR: 'it returns false'. Refute it at one input. -/
def isoShiftsWrong : ChangeSpec := { name := "isoShifts", fn := fun _ => fun
  | [d1, d2] => { results := [.lit (.bool false)], args := [d1, d2] }
  | _ => none }
def IsoShiftsWrongFalsely : Prop := isoShiftsRow.holds Try.pinned (OpenSpec.ofChange isoShiftsWrong)

/-- 'vivariumlaw05.IsoThens': WHATEVER THE INPUT: true; the input reads as it did. -/
def isoThensSpec : ChangeSpec := { name := "isoThens", fn := fun _ => fun
  | [d1, d2] => { results := [.lit (.bool true)], args := [d1, d2] }
  | _ => none }
def isoThensRow : OpenClaim := { program := "ytjomgjlicfoehaa", sum := "2e574d9547f5cc96b956013432b6274422be51f864204fb914c74dd868a577e2", func := "vivarium/vivariumlaw05.IsoThens", spec := "isoThens", inPlace := ["math.Float64bits"], apart := false }
def IsoThensSaid : Prop := isoThensRow.holds Try.pinned (OpenSpec.ofChange isoThensSpec)

/-- ITS FALSE NEIGHBOUR: 'it returns false'. Refute it at one input. -/
def isoThensWrong : ChangeSpec := { name := "isoThens", fn := fun _ => fun
  | [d1, d2] => { results := [.lit (.bool false)], args := [d1, d2] }
  | _ => none }
def IsoThensWrongFalsely : Prop := isoThensRow.holds Try.pinned (OpenSpec.ofChange isoThensWrong)

/-- 'vivariumlaw05.IsoParts': WHATEVER THE INPUT: true; the input reads as it did. -/
def isoPartsSpec : ChangeSpec := { name := "isoParts", fn := fun _ => fun
  | [d] => { results := [.lit (.bool true)], args := [d] }
  | _ => none }
def isoPartsRow : OpenClaim := { program := "ytjomgjlicfoehaa", sum := "2e574d9547f5cc96b956013432b6274422be51f864204fb914c74dd868a577e2", func := "vivarium/vivariumlaw05.IsoParts", spec := "isoParts", inPlace := ["math.Float64bits"], apart := false }
def IsoPartsSaid : Prop := isoPartsRow.holds Try.pinned (OpenSpec.ofChange isoPartsSpec)

/-- ITS FALSE NEIGHBOUR: 'it returns false'. Refute it at one input. -/
def isoPartsWrong : ChangeSpec := { name := "isoParts", fn := fun _ => fun
  | [d] => { results := [.lit (.bool false)], args := [d] }
  | _ => none }
def IsoPartsWrongFalsely : Prop := isoPartsRow.holds Try.pinned (OpenSpec.ofChange isoPartsWrong)

/-- 'vivariumlaw05.IsoMaps': WHATEVER THE INPUT: true; the input reads as it did. -/
def isoMapsSpec : ChangeSpec := { name := "isoMaps", fn := fun _ => fun
  | [d] => { results := [.lit (.bool true)], args := [d] }
  | _ => none }
def isoMapsRow : OpenClaim := { program := "ytjomgjlicfoehaa", sum := "2e574d9547f5cc96b956013432b6274422be51f864204fb914c74dd868a577e2", func := "vivarium/vivariumlaw05.IsoMaps", spec := "isoMaps", inPlace := ["math.Float64bits"], apart := false }
def IsoMapsSaid : Prop := isoMapsRow.holds Try.pinned (OpenSpec.ofChange isoMapsSpec)

/-- ITS FALSE NEIGHBOUR: 'it returns false'. Refute it at one input. -/
def isoMapsWrong : ChangeSpec := { name := "isoMaps", fn := fun _ => fun
  | [d] => { results := [.lit (.bool false)], args := [d] }
  | _ => none }
def IsoMapsWrongFalsely : Prop := isoMapsRow.holds Try.pinned (OpenSpec.ofChange isoMapsWrong)

/-- 'vivariumlaw05.IsoRounds': WHATEVER THE INPUT: true; the input reads as it did. -/
def isoRoundsSpec : ChangeSpec := { name := "isoRounds", fn := fun _ => fun
  | [d] => { results := [.lit (.bool true)], args := [d] }
  | _ => none }
def isoRoundsRow : OpenClaim := { program := "ytjomgjlicfoehaa", sum := "2e574d9547f5cc96b956013432b6274422be51f864204fb914c74dd868a577e2", func := "vivarium/vivariumlaw05.IsoRounds", spec := "isoRounds", apart := false }
def IsoRoundsSaid : Prop := isoRoundsRow.holds Try.pinned (OpenSpec.ofChange isoRoundsSpec)

/-- ITS FALSE NEIGHBOUR: 'it returns false'. Refute it at one input. -/
def isoRoundsWrong : ChangeSpec := { name := "isoRounds", fn := fun _ => fun
  | [d] => { results := [.lit (.bool false)], args := [d] }
  | _ => none }
def IsoRoundsWrongFalsely : Prop := isoRoundsRow.holds Try.pinned (OpenSpec.ofChange isoRoundsWrong)

/-- 'vivariumlaw05.IsoGroup': WHATEVER THE INPUT: true; the input reads as it did. -/
def isoGroupSpec : ChangeSpec := { name := "isoGroup", fn := fun _ => fun
  | [d1, d2, d3, d4] => { results := [.lit (.bool true)], args := [d1, d2, d3, d4] }
  | _ => none }
def isoGroupRow : OpenClaim := { program := "ytjomgjlicfoehaa", sum := "2e574d9547f5cc96b956013432b6274422be51f864204fb914c74dd868a577e2", func := "vivarium/vivariumlaw05.IsoGroup", spec := "isoGroup", apart := false }
def IsoGroupSaid : Prop := isoGroupRow.holds Try.pinned (OpenSpec.ofChange isoGroupSpec)

/-- ITS FALSE NEIGHBOUR: 'it returns false'. Refute it at one input. -/
def isoGroupWrong : ChangeSpec := { name := "isoGroup", fn := fun _ => fun
  | [d1, d2, d3, d4] => { results := [.lit (.bool false)], args := [d1, d2, d3, d4] }
  | _ => none }
def IsoGroupWrongFalsely : Prop := isoGroupRow.holds Try.pinned (OpenSpec.ofChange isoGroupWrong)

/-- 'vivariumlaw05.IsoBack': WHATEVER THE INPUT: true; the input reads as it did. -/
def isoBackSpec : ChangeSpec := { name := "isoBack", fn := fun _ => fun
  | [d1, d2] => { results := [.lit (.bool true)], args := [d1, d2] }
  | _ => none }
def isoBackRow : OpenClaim := { program := "ytjomgjlicfoehaa", sum := "2e574d9547f5cc96b956013432b6274422be51f864204fb914c74dd868a577e2", func := "vivarium/vivariumlaw05.IsoBack", spec := "isoBack", apart := false }
def IsoBackSaid : Prop := isoBackRow.holds Try.pinned (OpenSpec.ofChange isoBackSpec)

/-- ITS FALSE NEIGHBOUR: 'it returns false'. Refute it at one input. -/
def isoBackWrong : ChangeSpec := { name := "isoBack", fn := fun _ => fun
  | [d1, d2] => { results := [.lit (.bool false)], args := [d1, d2] }
  | _ => none }
def IsoBackWrongFalsely : Prop := isoBackRow.holds Try.pinned (OpenSpec.ofChange isoBackWrong)

/-- 'vivariumlaw07.HoodTurns': WHATEVER THE INPUT: true; the input reads as it did. -/
def hoodTurnsSpec : ChangeSpec := { name := "hoodTurns", fn := fun _ => fun
  | [d1, d2] => { results := [.lit (.bool true)], args := [d1, d2] }
  | _ => none }
def hoodTurnsRow : OpenClaim := { program := "ytjomgjlicfoehaa", sum := "2e574d9547f5cc96b956013432b6274422be51f864204fb914c74dd868a577e2", func := "vivarium/vivariumlaw07.HoodTurns", spec := "hoodTurns", apart := false }
def HoodTurnsSaid : Prop := hoodTurnsRow.holds Try.pinned (OpenSpec.ofChange hoodTurnsSpec)

/-- ITS FALSE NEIGHBOUR: 'it returns false'. Refute it at one input. -/
def hoodTurnsWrong : ChangeSpec := { name := "hoodTurns", fn := fun _ => fun
  | [d1, d2] => { results := [.lit (.bool false)], args := [d1, d2] }
  | _ => none }
def HoodTurnsWrongFalsely : Prop := hoodTurnsRow.holds Try.pinned (OpenSpec.ofChange hoodTurnsWrong)

/-- 'vivariumlaw07.HoodRound': WHATEVER THE INPUT: true; the input reads as it did. -/
def hoodRoundSpec : ChangeSpec := { name := "hoodRound", fn := fun _ => fun
  | [d] => { results := [.lit (.bool true)], args := [d] }
  | _ => none }
def hoodRoundRow : OpenClaim := { program := "ytjomgjlicfoehaa", sum := "2e574d9547f5cc96b956013432b6274422be51f864204fb914c74dd868a577e2", func := "vivarium/vivariumlaw07.HoodRound", spec := "hoodRound", apart := false }
def HoodRoundSaid : Prop := hoodRoundRow.holds Try.pinned (OpenSpec.ofChange hoodRoundSpec)

/-- ITS FALSE NEIGHBOUR: 'it returns false'. Refute it at one input. -/
def hoodRoundWrong : ChangeSpec := { name := "hoodRound", fn := fun _ => fun
  | [d] => { results := [.lit (.bool false)], args := [d] }
  | _ => none }
def HoodRoundWrongFalsely : Prop := hoodRoundRow.holds Try.pinned (OpenSpec.ofChange hoodRoundWrong)

/-- 'vivariumlaw07.HoodPerms': WHATEVER THE INPUT: true; the input reads as it did. -/
def hoodPermsSpec : ChangeSpec := { name := "hoodPerms", fn := fun _ => fun
  | [d1, d2] => { results := [.lit (.bool true)], args := [d1, d2] }
  | _ => none }
def hoodPermsRow : OpenClaim := { program := "ytjomgjlicfoehaa", sum := "2e574d9547f5cc96b956013432b6274422be51f864204fb914c74dd868a577e2", func := "vivarium/vivariumlaw07.HoodPerms", spec := "hoodPerms", apart := false }
def HoodPermsSaid : Prop := hoodPermsRow.holds Try.pinned (OpenSpec.ofChange hoodPermsSpec)

/-- ITS FALSE NEIGHBOUR: 'it returns false'. Refute it at one input. -/
def hoodPermsWrong : ChangeSpec := { name := "hoodPerms", fn := fun _ => fun
  | [d1, d2] => { results := [.lit (.bool false)], args := [d1, d2] }
  | _ => none }
def HoodPermsWrongFalsely : Prop := hoodPermsRow.holds Try.pinned (OpenSpec.ofChange hoodPermsWrong)

/-- 'vivariumlaw07.HoodNames': WHATEVER THE INPUT: true; the input reads as it did. -/
def hoodNamesSpec : ChangeSpec := { name := "hoodNames", fn := fun _ => fun
  | [] => { results := [.lit (.bool true)], args := [] }
  | _ => none }
def hoodNamesRow : OpenClaim := { program := "ytjomgjlicfoehaa", sum := "2e574d9547f5cc96b956013432b6274422be51f864204fb914c74dd868a577e2", func := "vivarium/vivariumlaw07.HoodNames", spec := "hoodNames", apart := false }
def HoodNamesSaid : Prop := hoodNamesRow.holds Try.pinned (OpenSpec.ofChange hoodNamesSpec)

/-- ITS FALSE NEIGHBOUR: 'it returns false'. Refute it at one input. -/
def hoodNamesWrong : ChangeSpec := { name := "hoodNames", fn := fun _ => fun
  | [] => { results := [.lit (.bool false)], args := [] }
  | _ => none }
def HoodNamesWrongFalsely : Prop := hoodNamesRow.holds Try.pinned (OpenSpec.ofChange hoodNamesWrong)

/-- 'vivariumlaw07.HoodThen': WHATEVER THE INPUT: true; the input reads as it did. -/
def hoodThenSpec : ChangeSpec := { name := "hoodThen", fn := fun _ => fun
  | [d1, d2, d3] => { results := [.lit (.bool true)], args := [d1, d2, d3] }
  | _ => none }
def hoodThenRow : OpenClaim := { program := "ytjomgjlicfoehaa", sum := "2e574d9547f5cc96b956013432b6274422be51f864204fb914c74dd868a577e2", func := "vivarium/vivariumlaw07.HoodThen", spec := "hoodThen", apart := false }
def HoodThenSaid : Prop := hoodThenRow.holds Try.pinned (OpenSpec.ofChange hoodThenSpec)

/-- ITS FALSE NEIGHBOUR: 'it returns false'. Refute it at one input. -/
def hoodThenWrong : ChangeSpec := { name := "hoodThen", fn := fun _ => fun
  | [d1, d2, d3] => { results := [.lit (.bool false)], args := [d1, d2, d3] }
  | _ => none }
def HoodThenWrongFalsely : Prop := hoodThenRow.holds Try.pinned (OpenSpec.ofChange hoodThenWrong)

/- THE SECOND FORM. 'bulk': how many values and letters a reading holds, each counted each time it is reached (what is shared counts as often as it is met; a slice's spare places count too). A statement '..UptoSaid' is the law's where the arguments, and the package variables that the reading takes, are together of bulk at most 1048576: NARROWER than '..Said'. Prove '..Said' where nothing that the law and all that it calls make is longer than what came in: it says more and counts as full. Else prove '..UptoSaid'. A law counts once. -/
mutual
def uptoBulk {H : Type} : DataW H → Nat
  | .lit (.string bytes) => bytes.length + 1
  | .lit _ => 1
  | .nil => 1
  | .ptr d => uptoBulk d + 1
  | .slice elems spare => uptoBulkAll elems + uptoBulkAll spare + 1
  | .agg parts => uptoBulkAll parts + 1
  | .iface _ d => uptoBulk d + 1
  | .map entries => uptoBulkEntries entries + 1
  | .held _ => 1
def uptoBulkAll {H : Type} : List (DataW H) → Nat
  | [] => 0
  | d :: r => uptoBulk d + uptoBulkAll r
def uptoBulkEntries {H : Type} : List (Lit × DataW H) → Nat
  | [] => 0
  | x :: r => uptoBulkEntry x + uptoBulkEntries r
def uptoBulkEntry {H : Type} : Lit × DataW H → Nat
  | (.string bytes, d) => bytes.length + uptoBulk d + 1
  | (_, d) => uptoBulk d + 1
 end
def uptoSmall : (H : Type) → List (DataW H) → Bool := fun _ ds => decide (uptoBulkAll ds ≤ 1048576)
def OpenSpec.upto (s : _root_.Go.ChangeSpec) : _root_.Go.OpenSpec := { _root_.Go.OpenSpec.ofChange s with cond := some uptoSmall }

/-- 'vivariumlaw07.HoodOffsets', WHERE WHAT IT READS IS OF BULK AT MOST 1048576: true; the input reads as it did. -/
def hoodOffsetsUptoRow : OpenClaim := { program := "ytjomgjlicfoehaa", sum := "2e574d9547f5cc96b956013432b6274422be51f864204fb914c74dd868a577e2", func := "vivarium/vivariumlaw07.HoodOffsets", spec := "hoodOffsets", apart := false, narrowed := true }
def HoodOffsetsUptoSaid : Prop := hoodOffsetsUptoRow.holds Try.pinned (OpenSpec.upto hoodOffsetsSpec)

/-- 'vivariumlaw05.IsoAts', WHERE WHAT IT READS IS OF BULK AT MOST 1048576: true; the input reads as it did. -/
def isoAtsUptoRow : OpenClaim := { program := "ytjomgjlicfoehaa", sum := "2e574d9547f5cc96b956013432b6274422be51f864204fb914c74dd868a577e2", func := "vivarium/vivariumlaw05.IsoAts", spec := "isoAts", apart := false, narrowed := true }
def IsoAtsUptoSaid : Prop := isoAtsUptoRow.holds Try.pinned (OpenSpec.upto isoAtsSpec)

/-- 'vivariumlaw05.IsoNames', WHERE WHAT IT READS IS OF BULK AT MOST 1048576: true; the input reads as it did. -/
def isoNamesUptoRow : OpenClaim := { program := "ytjomgjlicfoehaa", sum := "2e574d9547f5cc96b956013432b6274422be51f864204fb914c74dd868a577e2", func := "vivarium/vivariumlaw05.IsoNames", spec := "isoNames", apart := false, narrowed := true }
def IsoNamesUptoSaid : Prop := isoNamesUptoRow.holds Try.pinned (OpenSpec.upto isoNamesSpec)

/-- 'vivariumlaw05.IsoKeeps', WHERE WHAT IT READS IS OF BULK AT MOST 1048576: true; the input reads as it did. -/
def isoKeepsUptoRow : OpenClaim := { program := "ytjomgjlicfoehaa", sum := "2e574d9547f5cc96b956013432b6274422be51f864204fb914c74dd868a577e2", func := "vivarium/vivariumlaw05.IsoKeeps", spec := "isoKeeps", apart := false, narrowed := true }
def IsoKeepsUptoSaid : Prop := isoKeepsUptoRow.holds Try.pinned (OpenSpec.upto isoKeepsSpec)

/-- 'vivariumlaw05.IsoShifts', WHERE WHAT IT READS IS OF BULK AT MOST 1048576: true; the input reads as it did. -/
def isoShiftsUptoRow : OpenClaim := { program := "ytjomgjlicfoehaa", sum := "2e574d9547f5cc96b956013432b6274422be51f864204fb914c74dd868a577e2", func := "vivarium/vivariumlaw05.IsoShifts", spec := "isoShifts", inPlace := ["math.Float64bits"], apart := false, narrowed := true }
def IsoShiftsUptoSaid : Prop := isoShiftsUptoRow.holds Try.pinned (OpenSpec.upto isoShiftsSpec)

/-- 'vivariumlaw05.IsoThens', WHERE WHAT IT READS IS OF BULK AT MOST 1048576: true; the input reads as it did. -/
def isoThensUptoRow : OpenClaim := { program := "ytjomgjlicfoehaa", sum := "2e574d9547f5cc96b956013432b6274422be51f864204fb914c74dd868a577e2", func := "vivarium/vivariumlaw05.IsoThens", spec := "isoThens", inPlace := ["math.Float64bits"], apart := false, narrowed := true }
def IsoThensUptoSaid : Prop := isoThensUptoRow.holds Try.pinned (OpenSpec.upto isoThensSpec)

/-- 'vivariumlaw05.IsoParts', WHERE WHAT IT READS IS OF BULK AT MOST 1048576: true; the input reads as it did. -/
def isoPartsUptoRow : OpenClaim := { program := "ytjomgjlicfoehaa", sum := "2e574d9547f5cc96b956013432b6274422be51f864204fb914c74dd868a577e2", func := "vivarium/vivariumlaw05.IsoParts", spec := "isoParts", inPlace := ["math.Float64bits"], apart := false, narrowed := true }
def IsoPartsUptoSaid : Prop := isoPartsUptoRow.holds Try.pinned (OpenSpec.upto isoPartsSpec)

/-- 'vivariumlaw05.IsoMaps', WHERE WHAT IT READS IS OF BULK AT MOST 1048576: true; the input reads as it did. -/
def isoMapsUptoRow : OpenClaim := { program := "ytjomgjlicfoehaa", sum := "2e574d9547f5cc96b956013432b6274422be51f864204fb914c74dd868a577e2", func := "vivarium/vivariumlaw05.IsoMaps", spec := "isoMaps", inPlace := ["math.Float64bits"], apart := false, narrowed := true }
def IsoMapsUptoSaid : Prop := isoMapsUptoRow.holds Try.pinned (OpenSpec.upto isoMapsSpec)

/-- 'vivariumlaw05.IsoRounds', WHERE WHAT IT READS IS OF BULK AT MOST 1048576: true; the input reads as it did. -/
def isoRoundsUptoRow : OpenClaim := { program := "ytjomgjlicfoehaa", sum := "2e574d9547f5cc96b956013432b6274422be51f864204fb914c74dd868a577e2", func := "vivarium/vivariumlaw05.IsoRounds", spec := "isoRounds", apart := false, narrowed := true }
def IsoRoundsUptoSaid : Prop := isoRoundsUptoRow.holds Try.pinned (OpenSpec.upto isoRoundsSpec)

/-- 'vivariumlaw05.IsoGroup', WHERE WHAT IT READS IS OF BULK AT MOST 1048576: true; the input reads as it did. -/
def isoGroupUptoRow : OpenClaim := { program := "ytjomgjlicfoehaa", sum := "2e574d9547f5cc96b956013432b6274422be51f864204fb914c74dd868a577e2", func := "vivarium/vivariumlaw05.IsoGroup", spec := "isoGroup", apart := false, narrowed := true }
def IsoGroupUptoSaid : Prop := isoGroupUptoRow.holds Try.pinned (OpenSpec.upto isoGroupSpec)

/-- 'vivariumlaw05.IsoBack', WHERE WHAT IT READS IS OF BULK AT MOST 1048576: true; the input reads as it did. -/
def isoBackUptoRow : OpenClaim := { program := "ytjomgjlicfoehaa", sum := "2e574d9547f5cc96b956013432b6274422be51f864204fb914c74dd868a577e2", func := "vivarium/vivariumlaw05.IsoBack", spec := "isoBack", apart := false, narrowed := true }
def IsoBackUptoSaid : Prop := isoBackUptoRow.holds Try.pinned (OpenSpec.upto isoBackSpec)

/-- 'vivariumlaw07.HoodTurns', WHERE WHAT IT READS IS OF BULK AT MOST 1048576: true; the input reads as it did. -/
def hoodTurnsUptoRow : OpenClaim := { program := "ytjomgjlicfoehaa", sum := "2e574d9547f5cc96b956013432b6274422be51f864204fb914c74dd868a577e2", func := "vivarium/vivariumlaw07.HoodTurns", spec := "hoodTurns", apart := false, narrowed := true }
def HoodTurnsUptoSaid : Prop := hoodTurnsUptoRow.holds Try.pinned (OpenSpec.upto hoodTurnsSpec)

/-- 'vivariumlaw07.HoodRound', WHERE WHAT IT READS IS OF BULK AT MOST 1048576: true; the input reads as it did. -/
def hoodRoundUptoRow : OpenClaim := { program := "ytjomgjlicfoehaa", sum := "2e574d9547f5cc96b956013432b6274422be51f864204fb914c74dd868a577e2", func := "vivarium/vivariumlaw07.HoodRound", spec := "hoodRound", apart := false, narrowed := true }
def HoodRoundUptoSaid : Prop := hoodRoundUptoRow.holds Try.pinned (OpenSpec.upto hoodRoundSpec)

/-- 'vivariumlaw07.HoodPerms', WHERE WHAT IT READS IS OF BULK AT MOST 1048576: true; the input reads as it did. -/
def hoodPermsUptoRow : OpenClaim := { program := "ytjomgjlicfoehaa", sum := "2e574d9547f5cc96b956013432b6274422be51f864204fb914c74dd868a577e2", func := "vivarium/vivariumlaw07.HoodPerms", spec := "hoodPerms", apart := false, narrowed := true }
def HoodPermsUptoSaid : Prop := hoodPermsUptoRow.holds Try.pinned (OpenSpec.upto hoodPermsSpec)

/-- 'vivariumlaw07.HoodNames', WHERE WHAT IT READS IS OF BULK AT MOST 1048576: true; the input reads as it did. -/
def hoodNamesUptoRow : OpenClaim := { program := "ytjomgjlicfoehaa", sum := "2e574d9547f5cc96b956013432b6274422be51f864204fb914c74dd868a577e2", func := "vivarium/vivariumlaw07.HoodNames", spec := "hoodNames", apart := false, narrowed := true }
def HoodNamesUptoSaid : Prop := hoodNamesUptoRow.holds Try.pinned (OpenSpec.upto hoodNamesSpec)

/-- 'vivariumlaw07.HoodThen', WHERE WHAT IT READS IS OF BULK AT MOST 1048576: true; the input reads as it did. -/
def hoodThenUptoRow : OpenClaim := { program := "ytjomgjlicfoehaa", sum := "2e574d9547f5cc96b956013432b6274422be51f864204fb914c74dd868a577e2", func := "vivarium/vivariumlaw07.HoodThen", spec := "hoodThen", apart := false, narrowed := true }
def HoodThenUptoSaid : Prop := hoodThenUptoRow.holds Try.pinned (OpenSpec.upto hoodThenSpec)

end Rows
end Go.Proofs.Ytjomgjlicfoehaa
