import Derived.Test.YtigghbehnnghnaaWnO
namespace Go.Proofs.Ytigghbehnnghnaa
open Go.RowKit Go.RowBits
set_option linter.unusedSimpArgs false
set_option linter.unusedVariables false

/-! ### WindowNames -/
set_option maxRecDepth 20000 in
set_option maxHeartbeats 8000000 in
theorem windowNames_walk (w : World) : Calls Try.prog 8 #[] w fun e w' => e = .returned (.bool true) ∧ Below w.heap.size w w' := by
  have KC := Lib.hid conway29
  have K1 := Lib.hid (fun W => check28_sides (h := 1) (born := 8) (stay := 12) (k := 2) (W := 0) (H := 4) (E := 194) (by omega) (by omega) conway_E (by omega) (by omega) (by omega) (by omega) W)
  have K2 := Lib.hid (fun W => check28_sides (h := 1) (born := 8) (stay := 12) (k := 1) (W := 0) (H := 0) (E := 191) (by omega) (by omega) conway_E (by omega) (by omega) (by omega) (by omega) W)
  have K3 := Lib.hid (fun W => check28_sides (h := 1) (born := 8) (stay := 12) (k := 2) (W := 4) (H := 4) (E := 192) (by omega) (by omega) conway_E (by omega) (by omega) (by omega) (by omega) W)
  have K4 := Lib.hid check28_zero
  have K5 := Lib.hid runC
  have K6 := Lib.hid alive31
  go_enter Try.func8, Try.ntmps8
  go_wp2_with fail
  refine (KC.out _).mono ?_
  rintro e w1 ⟨rfl, hb⟩
  have hB1 := Lib.hid hb
  clear hb
  go_wp2_with fail
  refine (K1.out _).mono ?_
  rintro e w2 ⟨rfl, hb⟩
  have hB2 := Lib.hid (below_then hB1.out hb hB1.out.size)
  clear hb
  go_wp2_with fail
  refine (KC.out _).mono ?_
  rintro e w3 ⟨rfl, hb⟩
  have hB3 := Lib.hid (below_then hB2.out hb hB2.out.size)
  clear hb
  go_wp2_with fail
  refine (K2.out _).mono ?_
  rintro e w4 ⟨rfl, hb⟩
  have hB4 := Lib.hid (below_then hB3.out hb hB3.out.size)
  clear hb
  go_wp2_with fail
  refine (KC.out _).mono ?_
  rintro e w5 ⟨rfl, hb⟩
  have hB5 := Lib.hid (below_then hB4.out hb hB4.out.size)
  clear hb
  go_wp2_with fail
  refine (K3.out _).mono ?_
  rintro e w6 ⟨rfl, hb⟩
  have hB6 := Lib.hid (below_then hB5.out hb hB5.out.size)
  clear hb
  go_wp2_with fail
  refine (K4.out _).mono ?_
  rintro e w7 ⟨rfl, hb⟩
  have hB7 := Lib.hid (below_then hB6.out hb hB6.out.size)
  clear hb
  go_wp2_with fail
  refine (KC.out _).mono ?_
  rintro e w8 ⟨rfl, hb⟩
  have hB8 := Lib.hid (below_then hB7.out hb hB7.out.size)
  clear hb
  have hL : Hid (HasL ((w8.alloc (.cells #[.int .u8 1, .int .u8 1, .int .u8 1, .int .u8 0] 5)).alloc (.cells #[.slice (some ⟨w8.heap.size, 0, none⟩) 4 4] 53)) (.slice (some ⟨w8.heap.size + 1, 0, none⟩) 1 1) C1) := by
    refine ⟨some ⟨w8.heap.size + 1, 0, none⟩, 1, rfl, Nat.le_refl _, fun i hi => ?_⟩
    have : i < 1 := hi
    obtain rfl : i = 0 := by omega
    have Y : YBlk (w8.alloc (.cells #[.int .u8 1, .int .u8 1, .int .u8 1, .int .u8 0] 5)) w8.heap.size [1, 1, 1, 0] := YBlk.new w8 _ _ rfl
    refine ⟨w8.heap.size + 1, 0, .slice (some ⟨w8.heap.size, 0, none⟩) 4 4, rfl, ?_, (Y.kept (below_new _)).has⟩
    have h2 := heap_alloc_new (w8.alloc (.cells #[.int .u8 1, .int .u8 1, .int .u8 1, .int .u8 0] 5)) (.cells #[.slice (some ⟨w8.heap.size, 0, none⟩) 4 4] 53)
    rw [size_alloc] at h2
    rw [cell_of_row _ _ 0 _ 53 (0, 0) h2]
    rfl
  have hB9 : Hid (Below w.heap.size w ((w8.alloc (.cells #[.int .u8 1, .int .u8 1, .int .u8 1, .int .u8 0] 5)).alloc (.cells #[.slice (some ⟨w8.heap.size, 0, none⟩) 4 4] 53))) := (hB8.out.alloc hB8.out.size _).alloc (by have := hB8.out.size; simp; omega) _
  go_wp2_with fail
  refine (K5.out _ _ hL.out).mono ?_
  rintro e wa ⟨rfl, hb⟩
  have hBa := Lib.hid (below_then hB9.out hb hB9.out.size)
  clear hb
  go_wp2_with fail
  refine (K6.out _).mono ?_
  rintro e wb ⟨rfl, hb⟩
  have hBb : Hid (Below w.heap.size w wb) := (hBa.out.alloc hBa.out.size _).trans (hb.mono (by have := hBa.out.size; simp; omega))
  clear hb
  go_wp2_with fail
  refine bodyPost_ret (v := .bool true) ?_ rfl ⟨rfl, hBb.out⟩
  simp only [results, Try.f8, Array.toList]
  go_simp
end Go.Proofs.Ytigghbehnnghnaa
