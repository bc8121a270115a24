import Derived.Test.YtigghbehnnghnaaPkA
namespace Go.Proofs.Ytigghbehnnghnaa
open Go.RowKit Go.RowBits
set_option linter.unusedSimpArgs false
set_option linter.unusedVariables false

def SRel (W : World) (n : Nat) (i : Value) (wr : World) : Prop := ∃ k m : Nat, k ≤ n ∧ i = .int .i64 (k : Int) ∧ wr = W.drewN m
set_option maxRecDepth 20000 in
set_option maxHeartbeats 2000000 in
theorem same15 {w : World} {v v' : Value} {ws : List Nat} (N : Int) (hl : ws.length ≤ 1000000) (h : HasW w v ws) (h' : HasW w v' ws) :
    Calls Try.prog 15 #[.agg #[.int .i64 N, v], .agg #[.int .i64 N, v']] w fun e w' => e = .returned (.bool true) ∧ Below w.heap.size w w' := by
  obtain ⟨ad, cap, rfl, hc⟩ := h
  obtain ⟨ad', cap', rfl, hc'⟩ := h'
  generalize hn : ws.length = n at *
  have C := Lib.hid hc
  have C' := Lib.hid hc'
  have hB : Hid (∀ m, Below w.heap.size w (((w.alloc (.cells #[.int .i64 N, .slice ad n cap] 27)).alloc (.cells #[.int .i64 N, .slice ad' n cap'] 27)).drewN m)) := fun m => below_drewN ((below_new _).alloc (by simp) _) m
  clear hc hc' hn
  go_enter Try.func15, Try.ntmps15
  go_wp2
  go_loopw [5] (fun i wr => SRel ((w.alloc (.cells #[.int .i64 N, .slice ad n cap] 27)).alloc (.cells #[.int .i64 N, .slice ad' n cap'] 27)) n i wr) (fun i _ => n - (intOf i).toNat)
  case atStart => exact ⟨0, 0, by omega, by go_num, rfl⟩
  case round =>
    obtain ⟨k, m, hk, rfl, rfl⟩ := hrel
    by_cases hlt : k < n
    · obtain ⟨g, o, rfl, c1⟩ := C.out k hlt
      obtain ⟨g', o', rfl, c3⟩ := C'.out k hlt
      have hg : g < w.heap.size := World.block_lt_of_cell? w _ c1
      have hg' : g' < w.heap.size := World.block_lt_of_cell? w _ c3
      generalize ws.getD k 0 = X at *
      go_wp2
      go_quiet (fail)
      go_wp2
      exact ⟨⟨k + 1, m + nq, by omega, by go_num, rfl⟩, by simp [intOf]; omega⟩
    · obtain rfl : k = n := by omega
      go_wp2
      go_ret
      exact ⟨rfl, hB.out m⟩
end Go.Proofs.Ytigghbehnnghnaa
