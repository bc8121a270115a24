import Derived.Test.YtcbhbojplcddkaaGreatDoorZFdH
import Derived.IntWalk
namespace Go.Proofs.YtcbhbojplcddkaaGreatDoor
open Go.RowKit Go.RowBits
set_option linter.unusedSimpArgs false
set_option linter.unusedVariables false

/-! ### field.New's refusals -/
def newOk (w h s : Int) : Prop := 1 ≤ w ∧ w ≤ 65536 ∧ 1 ≤ h ∧ h ≤ 65536 ∧ 2 ≤ s ∧ s ≤ 256
abbrev newErr (e : Int) : Value := .tuple #[.pointer none, .int .i64 e]
set_option maxHeartbeats 2000000 in
theorem new27bad {w h s : Int} {pk : Bool} (hb : ¬ newOk w h s) (W : World) : Calls Tryz.prog 10 #[.int .i64 w, .int .i64 h, .int .i64 s, .bool pk] W fun e w' => e = .returned (newErr 2) ∧ w' = W := by
  unfold newOk at hb
  by_cases h0 : 1 ≤ w
  · skip
    by_cases h1 : w ≤ 65536
    · skip
      by_cases h2 : 1 ≤ h
      · skip
        by_cases h3 : h ≤ 65536
        · skip
          by_cases h4 : 2 ≤ s
          · skip
            by_cases h5 : s ≤ 256
            · skip
              exact absurd ⟨h0, h1, h2, h3, h4, h5⟩ hb
            · clear hb
              go_enter Tryz.func10, Tryz.ntmps10
              go_wp2
              go_ret2
              exact ⟨rfl, rfl⟩
          · clear hb
            go_enter Tryz.func10, Tryz.ntmps10
            go_wp2
            go_ret2
            exact ⟨rfl, rfl⟩
        · clear hb
          go_enter Tryz.func10, Tryz.ntmps10
          go_wp2
          go_ret2
          exact ⟨rfl, rfl⟩
      · clear hb
        go_enter Tryz.func10, Tryz.ntmps10
        go_wp2
        go_ret2
        exact ⟨rfl, rfl⟩
    · clear hb
      go_enter Tryz.func10, Tryz.ntmps10
      go_wp2
      go_ret2
      exact ⟨rfl, rfl⟩
  · clear hb
    go_enter Tryz.func10, Tryz.ntmps10
    go_wp2
    go_ret2
    exact ⟨rfl, rfl⟩
set_option maxHeartbeats 2000000 in
theorem new27states {w h s : Int} (hb : newOk w h s) (hs : 2 < s) (W : World) : Calls Tryz.prog 10 #[.int .i64 w, .int .i64 h, .int .i64 s, .bool true] W fun e w' => e = .returned (newErr 132) ∧ w' = W := by
  obtain ⟨h0, h1, h2, h3, h4, h5⟩ := hb
  go_enter Tryz.func10, Tryz.ntmps10
  go_wp2
  go_ret2
  exact ⟨rfl, rfl⟩
theorem wh_wrap {w h s : Int} (hb : newOk w h s) : IntKind.i64.wrap (w * h) = w * h := by
  obtain ⟨h0, h1, h2, h3, _⟩ := hb
  have a1 : 0 ≤ w * h := Int.mul_nonneg (by omega) (by omega)
  have a2 : w * h ≤ 65536 * 65536 := Int.mul_le_mul h1 h3 (by omega) (by omega)
  exact IntWalk.i64_in _ (by omega)
set_option maxHeartbeats 2000000 in
theorem new27bigf {w h s : Int} (hb : newOk w h s) (hwh : 1048576 < w * h) (W : World) : Calls Tryz.prog 10 #[.int .i64 w, .int .i64 h, .int .i64 s, .bool false] W fun e w' => e = .returned (newErr 4) ∧ w' = W := by
  have hwr := wh_wrap hb
  obtain ⟨h0, h1, h2, h3, h4, h5⟩ := hb
  have hm : Hid (IntKind.i64.wrap (w * h) = w * h) := hwr
  go_enter Tryz.func10, Tryz.ntmps10
  go_wp2
  go_ret2
  exact ⟨rfl, rfl⟩
set_option maxHeartbeats 2000000 in
theorem new27bigt {w h s : Int} (hb : newOk w h s) (hs : s ≤ 2) (hwh : 1048576 < w * h) (W : World) : Calls Tryz.prog 10 #[.int .i64 w, .int .i64 h, .int .i64 s, .bool true] W fun e w' => e = .returned (newErr 4) ∧ w' = W := by
  have hwr := wh_wrap hb
  obtain ⟨h0, h1, h2, h3, h4, h5⟩ := hb
  have hm : Hid (IntKind.i64.wrap (w * h) = w * h) := hwr
  go_enter Tryz.func10, Tryz.ntmps10
  go_wp2
  go_ret2
  exact ⟨rfl, rfl⟩
end Go.Proofs.YtcbhbojplcddkaaGreatDoor
