import Derived.Test.YtcbhbojplcddkaaGreatDoorZGdC
import Derived.Deep.RegionWith
import Derived.Deep.CutRange
import Derived.Laws.EntriesVeiled
namespace Go.Proofs.YtcbhbojplcddkaaGreatDoor
open Go.RowKit Go.RowBits
set_option linter.unusedSimpArgs false
set_option linter.unusedVariables false

/-! ### fold.Ring (printed by mkGdG.py) -/
set_option maxHeartbeats 1000000 in
theorem way67_1 (w : World) : Calls Tryz.prog 79 #[.int .u8 1] w fun e w' => e = .returned (.func (.func 85) #[] #[]) ∧ Below w.heap.size w w' := by
  go_enter Tryz.func79, Tryz.ntmps79
  go_wp2
  go_ret
  exact ⟨rfl, below_new _⟩
set_option maxHeartbeats 1000000 in
theorem way67_2 (w : World) : Calls Tryz.prog 79 #[.int .u8 2] w fun e w' => e = .returned (.func (.func 86) #[] #[]) ∧ Below w.heap.size w w' := by
  go_enter Tryz.func79, Tryz.ntmps79
  go_wp2
  go_ret
  exact ⟨rfl, below_new _⟩
set_option maxHeartbeats 1000000 in
theorem way67_3 (w : World) : Calls Tryz.prog 79 #[.int .u8 3] w fun e w' => e = .returned (.func (.func 87) #[] #[]) ∧ Below w.heap.size w w' := by
  go_enter Tryz.func79, Tryz.ntmps79
  go_wp2
  go_ret
  exact ⟨rfl, below_new _⟩
set_option maxHeartbeats 1000000 in
theorem way67_4 (w : World) : Calls Tryz.prog 79 #[.int .u8 4] w fun e w' => e = .returned (.func (.func 88) #[] #[]) ∧ Below w.heap.size w w' := by
  go_enter Tryz.func79, Tryz.ntmps79
  go_wp2
  go_ret
  exact ⟨rfl, below_new _⟩
set_option maxHeartbeats 1000000 in
theorem way67_5 (w : World) : Calls Tryz.prog 79 #[.int .u8 5] w fun e w' => e = .returned (.func (.func 89) #[] #[]) ∧ Below w.heap.size w w' := by
  go_enter Tryz.func79, Tryz.ntmps79
  go_wp2
  go_ret
  exact ⟨rfl, below_new _⟩
def RingPost (w : World) (W H : Int) (p : Int × Int) (ok : Bool) (e : Ending) (w' : World) : Prop :=
  e = .returned (.tuple #[if ok then ptV (p.1 - W / 2) (p.2 - H / 2) else ptV 0 0, .bool ok, .int .i64 0]) ∧ Below w.heap.size w w'
end Go.Proofs.YtcbhbojplcddkaaGreatDoor
