/-
  No cell of these rows narrows 'for every input' (looked for: loops, veiled, ifaces, maps, wideKeys, modest, calm, conditions, laid).
  DERIVED. THE GIVEN ROWS OF THIS SEAT. 9 by the template 'for every input the law returns true; each argument reads behind the call as it read before'; 0 by the template 'total and deterministic' (their statements: YtigghbehnnghnaaTotals.lean).
  GIVEN WITH THE SEED: the statements are not yours to turn. If you find one false, say at which input.
  Laid BY PROGRAM, IN A SANDBOX (cutbox-rows.mjs): the forced cells as the released guide's own fill.sh prints them over the translation bcdd2fc92ac04b5a… (all of the seat's roots in one cut). By AI agents, Wed Nov 11 2026. No macro, syntax, notation, axiom, sorry.
-/
import Derived.Test.YtigghbehnnghnaaChecked
import GoSem.Claim
import GoSem.ClaimJoined
import GoSem.ClaimMapViews
import Derived.JoinedTies
import Derived.KernelRfl
namespace Go.Proofs.Ytigghbehnnghnaa
/- THE CELL 'sum', in the pinned program and in every row, IS THE sha256 OF THE DUMP (.gsa) THAT YtigghbehnnghnaaProg.lean LOADS. Nothing in Lean hashes anything: it is a label: what it is worth is what the hold of that sum in a sandbox is worth. -/
noncomputable def Try.pinned : Pinned := { name := "ytigghbehnnghnaa", sum := "bcdd2fc92ac04b5aac024226ee67008b25a4033a62f18daf337db156913fd525", checked := Try.checked }
namespace Rows
def none {H : Type} : Left H := { results := [], args := [] }

/-- 'vivariumlaw16.PackedLines': WHATEVER THE INPUT: true; the input reads as it did. -/
def packedLinesSpec : ChangeSpec := { name := "packedLines", fn := fun _ => fun
  | [d1, d2, d3, d4] => { results := [.lit (.bool true)], args := [d1, d2, d3, d4] }
  | _ => none }
def packedLinesRow : OpenClaim := { program := "ytigghbehnnghnaa", sum := "bcdd2fc92ac04b5aac024226ee67008b25a4033a62f18daf337db156913fd525", func := "vivarium/vivariumlaw16.PackedLines", spec := "packedLines", plainKeys := false, apart := false }
def PackedLinesSaid : Prop := packedLinesRow.holds Try.pinned (OpenSpec.ofChange packedLinesSpec)

/-- ITS FALSE NEIGHBOUR: 'it returns false'. Refute it at one input. -/
def packedLinesWrong : ChangeSpec := { name := "packedLines", fn := fun _ => fun
  | [d1, d2, d3, d4] => { results := [.lit (.bool false)], args := [d1, d2, d3, d4] }
  | _ => none }
def PackedLinesWrongFalsely : Prop := packedLinesRow.holds Try.pinned (OpenSpec.ofChange packedLinesWrong)

/-- 'vivariumlaw20.RowsNames': WHATEVER THE INPUT: true; the input reads as it did. -/
def rowsNamesSpec : ChangeSpec := { name := "rowsNames", fn := fun _ => fun
  | [] => { results := [.lit (.bool true)], args := [] }
  | _ => none }
def rowsNamesRow : OpenClaim := { program := "ytigghbehnnghnaa", sum := "bcdd2fc92ac04b5aac024226ee67008b25a4033a62f18daf337db156913fd525", func := "vivarium/vivariumlaw20.RowsNames", spec := "rowsNames", unfollowed := true, recurses := true, plainKeys := false, apart := false }
def RowsNamesSaid : Prop := rowsNamesRow.holds Try.pinned (OpenSpec.ofChange rowsNamesSpec)

/-- ITS FALSE NEIGHBOUR: 'it returns false'. Refute it at one input. -/
def rowsNamesWrong : ChangeSpec := { name := "rowsNames", fn := fun _ => fun
  | [] => { results := [.lit (.bool false)], args := [] }
  | _ => none }
def RowsNamesWrongFalsely : Prop := rowsNamesRow.holds Try.pinned (OpenSpec.ofChange rowsNamesWrong)

/-- 'vivariumlaw20.RowsNone': WHATEVER THE INPUT: true; the input reads as it did. -/
def rowsNoneSpec : ChangeSpec := { name := "rowsNone", fn := fun _ => fun
  | [d1, d2, d3, d4] => { results := [.lit (.bool true)], args := [d1, d2, d3, d4] }
  | _ => none }
def rowsNoneRow : OpenClaim := { program := "ytigghbehnnghnaa", sum := "bcdd2fc92ac04b5aac024226ee67008b25a4033a62f18daf337db156913fd525", func := "vivarium/vivariumlaw20.RowsNone", spec := "rowsNone", unfollowed := true, recurses := true, plainKeys := false, apart := false }
def RowsNoneSaid : Prop := rowsNoneRow.holds Try.pinned (OpenSpec.ofChange rowsNoneSpec)

/-- ITS FALSE NEIGHBOUR: 'it returns false'. Refute it at one input. -/
def rowsNoneWrong : ChangeSpec := { name := "rowsNone", fn := fun _ => fun
  | [d1, d2, d3, d4] => { results := [.lit (.bool false)], args := [d1, d2, d3, d4] }
  | _ => none }
def RowsNoneWrongFalsely : Prop := rowsNoneRow.holds Try.pinned (OpenSpec.ofChange rowsNoneWrong)

/-- 'vivariumlaw20.RowsOnce': WHATEVER THE INPUT: true; the input reads as it did. -/
def rowsOnceSpec : ChangeSpec := { name := "rowsOnce", fn := fun _ => fun
  | [d1, d2, d3, d4] => { results := [.lit (.bool true)], args := [d1, d2, d3, d4] }
  | _ => none }
def rowsOnceRow : OpenClaim := { program := "ytigghbehnnghnaa", sum := "bcdd2fc92ac04b5aac024226ee67008b25a4033a62f18daf337db156913fd525", func := "vivarium/vivariumlaw20.RowsOnce", spec := "rowsOnce", unfollowed := true, recurses := true, plainKeys := false, apart := false }
def RowsOnceSaid : Prop := rowsOnceRow.holds Try.pinned (OpenSpec.ofChange rowsOnceSpec)

/-- ITS FALSE NEIGHBOUR: 'it returns false'. Refute it at one input. -/
def rowsOnceWrong : ChangeSpec := { name := "rowsOnce", fn := fun _ => fun
  | [d1, d2, d3, d4] => { results := [.lit (.bool false)], args := [d1, d2, d3, d4] }
  | _ => none }
def RowsOnceWrongFalsely : Prop := rowsOnceRow.holds Try.pinned (OpenSpec.ofChange rowsOnceWrong)

/-- 'vivariumlaw20.RowsSteps': WHATEVER THE INPUT: true; the input reads as it did. -/
def rowsStepsSpec : ChangeSpec := { name := "rowsSteps", fn := fun _ => fun
  | [d1, d2, d3, d4] => { results := [.lit (.bool true)], args := [d1, d2, d3, d4] }
  | _ => none }
def rowsStepsRow : OpenClaim := { program := "ytigghbehnnghnaa", sum := "bcdd2fc92ac04b5aac024226ee67008b25a4033a62f18daf337db156913fd525", func := "vivarium/vivariumlaw20.RowsSteps", spec := "rowsSteps", unfollowed := true, recurses := true, plainKeys := false, apart := false }
def RowsStepsSaid : Prop := rowsStepsRow.holds Try.pinned (OpenSpec.ofChange rowsStepsSpec)

/-- ITS FALSE NEIGHBOUR: 'it returns false'. Refute it at one input. -/
def rowsStepsWrong : ChangeSpec := { name := "rowsSteps", fn := fun _ => fun
  | [d1, d2, d3, d4] => { results := [.lit (.bool false)], args := [d1, d2, d3, d4] }
  | _ => none }
def RowsStepsWrongFalsely : Prop := rowsStepsRow.holds Try.pinned (OpenSpec.ofChange rowsStepsWrong)

/-- 'vivariumlaw19.WindowNames': WHATEVER THE INPUT: true; the input reads as it did. -/
def windowNamesSpec : ChangeSpec := { name := "windowNames", fn := fun _ => fun
  | [] => { results := [.lit (.bool true)], args := [] }
  | _ => none }
def windowNamesRow : OpenClaim := { program := "ytigghbehnnghnaa", sum := "bcdd2fc92ac04b5aac024226ee67008b25a4033a62f18daf337db156913fd525", func := "vivarium/vivariumlaw19.WindowNames", spec := "windowNames", unfollowed := true, recurses := true, plainKeys := false, apart := false }
def WindowNamesSaid : Prop := windowNamesRow.holds Try.pinned (OpenSpec.ofChange windowNamesSpec)

/-- ITS FALSE NEIGHBOUR: 'it returns false'. Refute it at one input. -/
def windowNamesWrong : ChangeSpec := { name := "windowNames", fn := fun _ => fun
  | [] => { results := [.lit (.bool false)], args := [] }
  | _ => none }
def WindowNamesWrongFalsely : Prop := windowNamesRow.holds Try.pinned (OpenSpec.ofChange windowNamesWrong)

/-- 'vivariumlaw19.WindowThen': WHATEVER THE INPUT: true; the input reads as it did. -/
def windowThenSpec : ChangeSpec := { name := "windowThen", fn := fun _ => fun
  | [d1, d2, d3, d4, d5, d6] => { results := [.lit (.bool true)], args := [d1, d2, d3, d4, d5, d6] }
  | _ => none }
def windowThenRow : OpenClaim := { program := "ytigghbehnnghnaa", sum := "bcdd2fc92ac04b5aac024226ee67008b25a4033a62f18daf337db156913fd525", func := "vivarium/vivariumlaw19.WindowThen", spec := "windowThen", unfollowed := true, recurses := true, plainKeys := false, apart := false }
def WindowThenSaid : Prop := windowThenRow.holds Try.pinned (OpenSpec.ofChange windowThenSpec)

/-- ITS FALSE NEIGHBOUR: 'it returns false'. Refute it at one input. -/
def windowThenWrong : ChangeSpec := { name := "windowThen", fn := fun _ => fun
  | [d1, d2, d3, d4, d5, d6] => { results := [.lit (.bool false)], args := [d1, d2, d3, d4, d5, d6] }
  | _ => none }
def WindowThenWrongFalsely : Prop := windowThenRow.holds Try.pinned (OpenSpec.ofChange windowThenWrong)

/-- 'vivariumlaw19.WindowLined': WHATEVER THE INPUT: true; the input reads as it did. -/
def windowLinedSpec : ChangeSpec := { name := "windowLined", fn := fun _ => fun
  | [d1, d2, d3] => { results := [.lit (.bool true)], args := [d1, d2, d3] }
  | _ => none }
def windowLinedRow : OpenClaim := { program := "ytigghbehnnghnaa", sum := "bcdd2fc92ac04b5aac024226ee67008b25a4033a62f18daf337db156913fd525", func := "vivarium/vivariumlaw19.WindowLined", spec := "windowLined", unfollowed := true, recurses := true, plainKeys := false, apart := false }
def WindowLinedSaid : Prop := windowLinedRow.holds Try.pinned (OpenSpec.ofChange windowLinedSpec)

/-- ITS FALSE NEIGHBOUR: 'it returns false'. Refute it at one input. -/
def windowLinedWrong : ChangeSpec := { name := "windowLined", fn := fun _ => fun
  | [d1, d2, d3] => { results := [.lit (.bool false)], args := [d1, d2, d3] }
  | _ => none }
def WindowLinedWrongFalsely : Prop := windowLinedRow.holds Try.pinned (OpenSpec.ofChange windowLinedWrong)

/-- 'vivariumlaw19.WindowTrims': WHATEVER THE INPUT: true; the input reads as it did. -/
def windowTrimsSpec : ChangeSpec := { name := "windowTrims", fn := fun _ => fun
  | [d1, d2, d3, d4] => { results := [.lit (.bool true)], args := [d1, d2, d3, d4] }
  | _ => none }
def windowTrimsRow : OpenClaim := { program := "ytigghbehnnghnaa", sum := "bcdd2fc92ac04b5aac024226ee67008b25a4033a62f18daf337db156913fd525", func := "vivarium/vivariumlaw19.WindowTrims", spec := "windowTrims", unfollowed := true, recurses := true, plainKeys := false, apart := false }
def WindowTrimsSaid : Prop := windowTrimsRow.holds Try.pinned (OpenSpec.ofChange windowTrimsSpec)

/-- ITS FALSE NEIGHBOUR: 'it returns false'. Refute it at one input. -/
def windowTrimsWrong : ChangeSpec := { name := "windowTrims", fn := fun _ => fun
  | [d1, d2, d3, d4] => { results := [.lit (.bool false)], args := [d1, d2, d3, d4] }
  | _ => none }
def WindowTrimsWrongFalsely : Prop := windowTrimsRow.holds Try.pinned (OpenSpec.ofChange windowTrimsWrong)

/- THE SECOND FORM. 'bulk': how many values and letters a reading holds, each counted each time it is reached (what is shared counts as often as it is met; a slice's spare places count too). A statement '..UptoSaid' is the law's where the arguments, and the package variables that the reading takes, are together of bulk at most 1048576: NARROWER than '..Said'. Prove '..Said' where nothing that the law and all that it calls make is longer than what came in: it says more and counts as full. Else prove '..UptoSaid'. A law counts once. -/
mutual
def uptoBulk {H : Type} : DataW H → Nat
  | .lit (.string bytes) => bytes.length + 1
  | .lit _ => 1
  | .nil => 1
  | .ptr d => uptoBulk d + 1
  | .slice elems spare => uptoBulkAll elems + uptoBulkAll spare + 1
  | .agg parts => uptoBulkAll parts + 1
  | .iface _ d => uptoBulk d + 1
  | .map entries => uptoBulkEntries entries + 1
  | .held _ => 1
def uptoBulkAll {H : Type} : List (DataW H) → Nat
  | [] => 0
  | d :: r => uptoBulk d + uptoBulkAll r
def uptoBulkEntries {H : Type} : List (Lit × DataW H) → Nat
  | [] => 0
  | x :: r => uptoBulkEntry x + uptoBulkEntries r
def uptoBulkEntry {H : Type} : Lit × DataW H → Nat
  | (.string bytes, d) => bytes.length + uptoBulk d + 1
  | (_, d) => uptoBulk d + 1
 end
def uptoSmall : (H : Type) → List (DataW H) → Bool := fun _ ds => decide (uptoBulkAll ds ≤ 1048576)
def OpenSpec.upto (s : _root_.Go.ChangeSpec) : _root_.Go.OpenSpec := { _root_.Go.OpenSpec.ofChange s with cond := some uptoSmall }

/-- 'vivariumlaw16.PackedLines', WHERE WHAT IT READS IS OF BULK AT MOST 1048576: true; the input reads as it did. -/
def packedLinesUptoRow : OpenClaim := { program := "ytigghbehnnghnaa", sum := "bcdd2fc92ac04b5aac024226ee67008b25a4033a62f18daf337db156913fd525", func := "vivarium/vivariumlaw16.PackedLines", spec := "packedLines", plainKeys := false, apart := false, narrowed := true }
def PackedLinesUptoSaid : Prop := packedLinesUptoRow.holds Try.pinned (OpenSpec.upto packedLinesSpec)

/-- 'vivariumlaw20.RowsNames', WHERE WHAT IT READS IS OF BULK AT MOST 1048576: true; the input reads as it did. -/
def rowsNamesUptoRow : OpenClaim := { program := "ytigghbehnnghnaa", sum := "bcdd2fc92ac04b5aac024226ee67008b25a4033a62f18daf337db156913fd525", func := "vivarium/vivariumlaw20.RowsNames", spec := "rowsNames", unfollowed := true, recurses := true, plainKeys := false, apart := false, narrowed := true }
def RowsNamesUptoSaid : Prop := rowsNamesUptoRow.holds Try.pinned (OpenSpec.upto rowsNamesSpec)

/-- 'vivariumlaw20.RowsNone', WHERE WHAT IT READS IS OF BULK AT MOST 1048576: true; the input reads as it did. -/
def rowsNoneUptoRow : OpenClaim := { program := "ytigghbehnnghnaa", sum := "bcdd2fc92ac04b5aac024226ee67008b25a4033a62f18daf337db156913fd525", func := "vivarium/vivariumlaw20.RowsNone", spec := "rowsNone", unfollowed := true, recurses := true, plainKeys := false, apart := false, narrowed := true }
def RowsNoneUptoSaid : Prop := rowsNoneUptoRow.holds Try.pinned (OpenSpec.upto rowsNoneSpec)

/-- 'vivariumlaw20.RowsOnce', WHERE WHAT IT READS IS OF BULK AT MOST 1048576: true; the input reads as it did. -/
def rowsOnceUptoRow : OpenClaim := { program := "ytigghbehnnghnaa", sum := "bcdd2fc92ac04b5aac024226ee67008b25a4033a62f18daf337db156913fd525", func := "vivarium/vivariumlaw20.RowsOnce", spec := "rowsOnce", unfollowed := true, recurses := true, plainKeys := false, apart := false, narrowed := true }
def RowsOnceUptoSaid : Prop := rowsOnceUptoRow.holds Try.pinned (OpenSpec.upto rowsOnceSpec)

/-- 'vivariumlaw20.RowsSteps', WHERE WHAT IT READS IS OF BULK AT MOST 1048576: true; the input reads as it did. -/
def rowsStepsUptoRow : OpenClaim := { program := "ytigghbehnnghnaa", sum := "bcdd2fc92ac04b5aac024226ee67008b25a4033a62f18daf337db156913fd525", func := "vivarium/vivariumlaw20.RowsSteps", spec := "rowsSteps", unfollowed := true, recurses := true, plainKeys := false, apart := false, narrowed := true }
def RowsStepsUptoSaid : Prop := rowsStepsUptoRow.holds Try.pinned (OpenSpec.upto rowsStepsSpec)

/-- 'vivariumlaw19.WindowNames', WHERE WHAT IT READS IS OF BULK AT MOST 1048576: true; the input reads as it did. -/
def windowNamesUptoRow : OpenClaim := { program := "ytigghbehnnghnaa", sum := "bcdd2fc92ac04b5aac024226ee67008b25a4033a62f18daf337db156913fd525", func := "vivarium/vivariumlaw19.WindowNames", spec := "windowNames", unfollowed := true, recurses := true, plainKeys := false, apart := false, narrowed := true }
def WindowNamesUptoSaid : Prop := windowNamesUptoRow.holds Try.pinned (OpenSpec.upto windowNamesSpec)

/-- 'vivariumlaw19.WindowThen', WHERE WHAT IT READS IS OF BULK AT MOST 1048576: true; the input reads as it did. -/
def windowThenUptoRow : OpenClaim := { program := "ytigghbehnnghnaa", sum := "bcdd2fc92ac04b5aac024226ee67008b25a4033a62f18daf337db156913fd525", func := "vivarium/vivariumlaw19.WindowThen", spec := "windowThen", unfollowed := true, recurses := true, plainKeys := false, apart := false, narrowed := true }
def WindowThenUptoSaid : Prop := windowThenUptoRow.holds Try.pinned (OpenSpec.upto windowThenSpec)

/-- 'vivariumlaw19.WindowLined', WHERE WHAT IT READS IS OF BULK AT MOST 1048576: true; the input reads as it did. -/
def windowLinedUptoRow : OpenClaim := { program := "ytigghbehnnghnaa", sum := "bcdd2fc92ac04b5aac024226ee67008b25a4033a62f18daf337db156913fd525", func := "vivarium/vivariumlaw19.WindowLined", spec := "windowLined", unfollowed := true, recurses := true, plainKeys := false, apart := false, narrowed := true }
def WindowLinedUptoSaid : Prop := windowLinedUptoRow.holds Try.pinned (OpenSpec.upto windowLinedSpec)

/-- 'vivariumlaw19.WindowTrims', WHERE WHAT IT READS IS OF BULK AT MOST 1048576: true; the input reads as it did. -/
def windowTrimsUptoRow : OpenClaim := { program := "ytigghbehnnghnaa", sum := "bcdd2fc92ac04b5aac024226ee67008b25a4033a62f18daf337db156913fd525", func := "vivarium/vivariumlaw19.WindowTrims", spec := "windowTrims", unfollowed := true, recurses := true, plainKeys := false, apart := false, narrowed := true }
def WindowTrimsUptoSaid : Prop := windowTrimsUptoRow.holds Try.pinned (OpenSpec.upto windowTrimsSpec)

end Rows
end Go.Proofs.Ytigghbehnnghnaa
