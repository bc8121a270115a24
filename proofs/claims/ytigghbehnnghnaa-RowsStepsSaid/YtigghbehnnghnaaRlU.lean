import Derived.Test.YtigghbehnnghnaaRlT
namespace Go.Proofs.Ytigghbehnnghnaa
open Go.RowKit Go.RowBits Go.MapRaw Go.Maps
set_option linter.unusedSimpArgs false
set_option linter.unusedVariables false

/-! ### A book that is none -/
section
variable {W : World} {q : Option Addr}
set_option maxHeartbeats 1000000 in
theorem row21_none (K : Hid (Calls Try.prog 51 #[.pointer q] W fun e w' => e = .returned (.bool true) ∧ w' = W)) (v : Value) : Calls Try.prog 21 #[.pointer q, v] W fun e w' => e = .returned (.tuple #[.int .i64 0, .int .i64 1]) ∧ w' = W := by
  go_enter Try.func21, Try.ntmps21
  go_wp2_with fail
  refine (K.out).mono ?_
  rintro e w' ⟨rfl, rfl⟩
  go_wp2
  go_ret2
  exact ⟨rfl, rfl⟩
set_option maxHeartbeats 1000000 in
theorem next22_none (K : Hid (Calls Try.prog 51 #[.pointer q] W fun e w' => e = .returned (.bool true) ∧ w' = W)) (a b c : Int) : Calls Try.prog 22 #[.pointer q, .int .i64 a, .int .i64 b, .int .i64 c] W fun e w' => e = .returned (.tuple #[.int .i64 0, .int .i64 1]) ∧ w' = W := by
  go_enter Try.func22, Try.ntmps22
  go_wp2_with fail
  refine (K.out).mono ?_
  rintro e w' ⟨rfl, rfl⟩
  go_wp2
  go_ret2
  exact ⟨rfl, rfl⟩
set_option maxHeartbeats 1000000 in
theorem count23_none (K : Hid (Calls Try.prog 51 #[.pointer q] W fun e w' => e = .returned (.bool true) ∧ w' = W)) : Calls Try.prog 23 #[.pointer q] W fun e w' => e = .returned (.int .i64 0) ∧ w' = W := by
  go_enter Try.func23, Try.ntmps23
  go_wp2_with fail
  refine (K.out).mono ?_
  rintro e w' ⟨rfl, rfl⟩
  go_wp2
  go_ret
  exact ⟨rfl, rfl⟩
set_option maxHeartbeats 1000000 in
theorem cells24_none (K : Hid (Calls Try.prog 51 #[.pointer q] W fun e w' => e = .returned (.bool true) ∧ w' = W)) (a : Int) : Calls Try.prog 24 #[.pointer q, .int .i64 a] W fun e w' => e = .returned (.tuple #[.slice none 0 0, .int .i64 1]) ∧ w' = W := by
  go_enter Try.func24, Try.ntmps24
  go_wp2_with fail
  refine (K.out).mono ?_
  rintro e w' ⟨rfl, rfl⟩
  go_wp2
  go_ret2
  exact ⟨rfl, rfl⟩
end
end Go.Proofs.Ytigghbehnnghnaa
