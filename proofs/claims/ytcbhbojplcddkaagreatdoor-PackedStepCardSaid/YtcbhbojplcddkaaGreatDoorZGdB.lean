import Derived.Test.YtcbhbojplcddkaaGreatDoorZGdB0
namespace Go.Proofs.YtcbhbojplcddkaaGreatDoor
open Go.RowKit Go.RowBits
set_option linter.unusedSimpArgs false
set_option linter.unusedVariables false

set_option maxRecDepth 100000 in
set_option maxHeartbeats 8000000 in
theorem topo38_1 {W H tn sh : Int} (htn : tn = 0 ∨ tn = 1 ∨ tn = 2 ∨ 2 < tn) (r1 : ¬ W < 0) (r2 : ¬ 65536 < W) (r3 : ¬ H < 0) (r4 : ¬ 65536 < H) (w : World) : Calls Tryz.prog 41 #[topoV 1 W H tn sh] w (TopoPost w 1 W H tn sh) := by
  by_cases e32 : tn = 0
  · have e32_ : (tn == 0) = true := by simp [e32]
    have e32n : (tn != 0) = false := by simp [e32]
    obtain rfl : tn = 0 := by assumption
    by_cases e33 : sh = 0
    · have e33_ : (sh == 0) = true := by simp [e33]
      have e33n : (sh != 0) = false := by simp [e33]
      go_enter Tryz.func41, Tryz.ntmps41
      go_wp2
      all_goals
        go_ret
        exact ⟨_, rfl, by unfold TopoOk; constructor <;> intro <;> omega, below_new _⟩
    · have e33_ : (sh == 0) = false := by simp [e33]
      have e33n : (sh != 0) = true := by simp [e33]
      go_enter Tryz.func41, Tryz.ntmps41
      go_wp2
      all_goals
        go_ret
        exact ⟨_, rfl, by unfold TopoOk; constructor <;> intro <;> omega, below_new _⟩
  · have e32_ : (tn == 0) = false := by simp [e32]
    have e32n : (tn != 0) = true := by simp [e32]
    go_enter Tryz.func41, Tryz.ntmps41
    go_wp2
    all_goals
      go_ret
      exact ⟨_, rfl, by unfold TopoOk; constructor <;> intro <;> omega, below_new _⟩
set_option maxRecDepth 100000 in
set_option maxHeartbeats 8000000 in
theorem topo38_4 {W H tn sh : Int} (htn : tn = 0 ∨ tn = 1 ∨ tn = 2 ∨ 2 < tn) (r1 : ¬ W < 0) (r2 : ¬ 65536 < W) (r3 : ¬ H < 0) (r4 : ¬ 65536 < H) (w : World) : Calls Tryz.prog 41 #[topoV 4 W H tn sh] w (TopoPost w 4 W H tn sh) := by
  by_cases e34 : W = 0
  · have e34_ : (W == 0) = true := by simp [e34]
    have e34n : (W != 0) = false := by simp [e34]
    go_enter Tryz.func41, Tryz.ntmps41
    go_wp2
    all_goals
      go_ret
      exact ⟨_, rfl, by unfold TopoOk; constructor <;> intro <;> omega, below_new _⟩
  · have e34_ : (W == 0) = false := by simp [e34]
    have e34n : (W != 0) = true := by simp [e34]
    by_cases e35 : H = 0
    · have e35_ : (H == 0) = true := by simp [e35]
      have e35n : (H != 0) = false := by simp [e35]
      go_enter Tryz.func41, Tryz.ntmps41
      go_wp2
      all_goals
        go_ret
        exact ⟨_, rfl, by unfold TopoOk; constructor <;> intro <;> omega, below_new _⟩
    · have e35_ : (H == 0) = false := by simp [e35]
      have e35n : (H != 0) = true := by simp [e35]
      by_cases e36 : tn = 0
      · have e36_ : (tn == 0) = true := by simp [e36]
        have e36n : (tn != 0) = false := by simp [e36]
        obtain rfl : tn = 0 := by assumption
        by_cases e37 : sh = 0
        · have e37_ : (sh == 0) = true := by simp [e37]
          have e37n : (sh != 0) = false := by simp [e37]
          go_enter Tryz.func41, Tryz.ntmps41
          go_wp2
          all_goals
            go_ret
            exact ⟨_, rfl, by unfold TopoOk; constructor <;> intro <;> omega, below_new _⟩
        · have e37_ : (sh == 0) = false := by simp [e37]
          have e37n : (sh != 0) = true := by simp [e37]
          go_enter Tryz.func41, Tryz.ntmps41
          go_wp2
          all_goals
            go_ret
            exact ⟨_, rfl, by unfold TopoOk; constructor <;> intro <;> omega, below_new _⟩
      · have e36_ : (tn == 0) = false := by simp [e36]
        have e36n : (tn != 0) = true := by simp [e36]
        go_enter Tryz.func41, Tryz.ntmps41
        go_wp2
        all_goals
          go_ret
          exact ⟨_, rfl, by unfold TopoOk; constructor <;> intro <;> omega, below_new _⟩
set_option maxRecDepth 100000 in
set_option maxHeartbeats 8000000 in
theorem topo38_5 {W H tn sh : Int} (htn : tn = 0 ∨ tn = 1 ∨ tn = 2 ∨ 2 < tn) (r1 : ¬ W < 0) (r2 : ¬ 65536 < W) (r3 : ¬ H < 0) (r4 : ¬ 65536 < H) (w : World) : Calls Tryz.prog 41 #[topoV 5 W H tn sh] w (TopoPost w 5 W H tn sh) := by
  by_cases q38 : W = H
  · subst q38
    by_cases e39 : W = 0
    · have e39_ : (W == 0) = true := by simp [e39]
      have e39n : (W != 0) = false := by simp [e39]
      go_enter Tryz.func41, Tryz.ntmps41
      go_wp2
      all_goals
        go_ret
        exact ⟨_, rfl, by unfold TopoOk; constructor <;> intro <;> omega, below_new _⟩
    · have e39_ : (W == 0) = false := by simp [e39]
      have e39n : (W != 0) = true := by simp [e39]
      by_cases e40 : tn = 0
      · have e40_ : (tn == 0) = true := by simp [e40]
        have e40n : (tn != 0) = false := by simp [e40]
        obtain rfl : tn = 0 := by assumption
        by_cases e41 : sh = 0
        · have e41_ : (sh == 0) = true := by simp [e41]
          have e41n : (sh != 0) = false := by simp [e41]
          go_enter Tryz.func41, Tryz.ntmps41
          go_wp2
          all_goals
            go_ret
            exact ⟨_, rfl, by unfold TopoOk; constructor <;> intro <;> omega, below_new _⟩
        · have e41_ : (sh == 0) = false := by simp [e41]
          have e41n : (sh != 0) = true := by simp [e41]
          go_enter Tryz.func41, Tryz.ntmps41
          go_wp2
          all_goals
            go_ret
            exact ⟨_, rfl, by unfold TopoOk; constructor <;> intro <;> omega, below_new _⟩
      · have e40_ : (tn == 0) = false := by simp [e40]
        have e40n : (tn != 0) = true := by simp [e40]
        go_enter Tryz.func41, Tryz.ntmps41
        go_wp2
        all_goals
          go_ret
          exact ⟨_, rfl, by unfold TopoOk; constructor <;> intro <;> omega, below_new _⟩
  · have q38_ : (W == H) = false := by simp [q38]
    have q38n : (W != H) = true := by simp [q38]
    go_enter Tryz.func41, Tryz.ntmps41
    go_wp2
    all_goals
      go_ret
      exact ⟨_, rfl, by unfold TopoOk; constructor <;> intro <;> omega, below_new _⟩
set_option maxRecDepth 100000 in
set_option maxHeartbeats 8000000 in
theorem topo38 {k W H tn sh : Int} (hk : 0 ≤ k ∧ k < 256) (ht : 0 ≤ tn) (w : World) : Calls Tryz.prog 41 #[topoV k W H tn sh] w (TopoPost w k W H tn sh) := by
  have htn : tn = 0 ∨ tn = 1 ∨ tn = 2 ∨ 2 < tn := by omega
  by_cases h1 : k < 1
  · obtain rfl : k = 0 := by omega
    go_enter Tryz.func41, Tryz.ntmps41
    go_wp2
    all_goals
      go_ret
      exact ⟨_, rfl, by unfold TopoOk; constructor <;> intro <;> omega, below_new _⟩
  by_cases h2 : 5 < k
  · skip
    go_enter Tryz.func41, Tryz.ntmps41
    go_wp2
    all_goals
      go_ret
      exact ⟨_, rfl, by unfold TopoOk; constructor <;> intro <;> omega, below_new _⟩
  by_cases c28 : W < 0
  · skip
    go_enter Tryz.func41, Tryz.ntmps41
    go_wp2
    all_goals
      go_ret
      exact ⟨_, rfl, by unfold TopoOk; constructor <;> intro <;> omega, below_new _⟩
  · skip
    by_cases c29 : 65536 < W
    · skip
      go_enter Tryz.func41, Tryz.ntmps41
      go_wp2
      all_goals
        go_ret
        exact ⟨_, rfl, by unfold TopoOk; constructor <;> intro <;> omega, below_new _⟩
    · skip
      by_cases c30 : H < 0
      · skip
        go_enter Tryz.func41, Tryz.ntmps41
        go_wp2
        all_goals
          go_ret
          exact ⟨_, rfl, by unfold TopoOk; constructor <;> intro <;> omega, below_new _⟩
      · skip
        by_cases c31 : 65536 < H
        · skip
          go_enter Tryz.func41, Tryz.ntmps41
          go_wp2
          all_goals
            go_ret
            exact ⟨_, rfl, by unfold TopoOk; constructor <;> intro <;> omega, below_new _⟩
        · skip
          rcases (show k = 1 ∨ k = 2 ∨ k = 3 ∨ k = 4 ∨ k = 5 by omega) with rfl | rfl | rfl | rfl | rfl
          · exact topo38_1 htn (by assumption) (by assumption) (by assumption) (by assumption) w
          · exact topo38_2 htn (by assumption) (by assumption) (by assumption) (by assumption) w
          · exact topo38_3 htn (by assumption) (by assumption) (by assumption) (by assumption) w
          · exact topo38_4 htn (by assumption) (by assumption) (by assumption) (by assumption) w
          · exact topo38_5 htn (by assumption) (by assumption) (by assumption) (by assumption) w
end Go.Proofs.YtcbhbojplcddkaaGreatDoor
