import Derived.Test.YtjomgjlicfoehaaIsoK
import Derived.Deep.RegionHeld3
namespace Go.Proofs.Ytjomgjlicfoehaa
open Go.RowKit Flt
attribute [local go_sem] run_store_float run_store_complex unary_neg_float unary_neg_complex
set_option linter.unusedSimpArgs false
set_option linter.unusedVariables false

theorem not_isMap_zero : ¬ ∃ k x y, IsMap 0 0 0 0 k x y := by
  rintro ⟨k, x, y, ⟨hk, h1, h2⟩, _, _⟩
  have e1 : (0 : Int) = tvx k := by
    have a := order_int isInt_zero h1
    have b := order_int isInt_zero isInt_zero
    rw [b] at a
    exact cmp_eq ((a.symm).trans (by rw [cmp_same]))
  have e2 : (0 : Int) = tvy k := by
    have a := order_int isInt_zero h2
    have b := order_int isInt_zero isInt_zero
    rw [b] at a
    exact cmp_eq ((a.symm).trans (by rw [cmp_same]))
  rcases tv_cases hk with ⟨h, h'⟩ | ⟨h, h'⟩ | ⟨h, h'⟩ | ⟨h, h'⟩ <;> omega

set_option maxRecDepth 10000 in
set_option maxHeartbeats 4000000 in
theorem isoNames_walk (w : World) : Calls Try.prog 5 #[] w fun e w' => e = .returned (.bool true) ∧ Below w.heap.size w w' := by
  have c1 : ∀ W, Calls Try.prog 28 #[.int .i64 1099511627776, .int .i64 (-1099511627776)] W fun e w' => e = .returned (.tuple #[isoF 0 false 1099511627776 (-1099511627776), .int .i64 0]) ∧ Below W.heap.size W w' := fun W => shift_yes ⟨by omega, by omega, by omega, by omega⟩ W
  have c2 : ∀ W, Calls Try.prog 28 #[.int .i64 1099511627777, .int .i64 0] W fun e w' => e = .returned (.tuple #[isoZero, .int .i64 5]) ∧ Below W.heap.size W w' := fun W => shift_no (by unfold Near; omega) W
  have c3 : ∀ W, Calls Try.prog 28 #[.int .i64 0, .int .i64 (-1099511627777)] W fun e w' => e = .returned (.tuple #[isoZero, .int .i64 5]) ∧ Below W.heap.size W w' := fun W => shift_no (by unfold Near; omega) W
  have m1 := isMap_F (k := 0) (x := 1099511627776) (y := -1099511627776) (by omega) (by omega) (by omega)
  have c4 : ∀ W, Calls Try.prog 26 #[isoF 0 false 1099511627776 (-1099511627776), .agg #[.int .i64 1, .int .i64 0]] W fun e w' => e = .returned (.tuple #[.agg #[.int .i64 0, .int .i64 0], .int .i64 5]) ∧ Below W.heap.size W w' := fun W =>
    at_out false 1 0 m1 ⟨by omega, by omega, by omega, by omega⟩ (by unfold Near dox doy fl tvx tvy; simp) W
  have c5 : ∀ W, Calls Try.prog 29 #[isoV 0 0 false 0 0] W fun e w' => e = .returned (.tuple #[.int .i64 0, .int .i64 50]) ∧ Below W.heap.size W w' := fun W => which_no false ⟨by omega, by omega, by omega, by omega⟩ not_isMap_zero W
  have m2 : IsMap 4607182418800017408 0 13830554455654793216 0 0 (-1) 0 := ⟨⟨by omega, isInt_one, isInt_zero⟩, ⟨isInt_mone, by omega⟩, ⟨isInt_zero, by omega⟩⟩
  have c6 : ∀ W, Calls Try.prog 26 #[isoV 4607182418800017408 0 false 13830554455654793216 0, .agg #[.int .i64 1099511627777, .int .i64 0]] W fun e w' => e = .returned (.tuple #[.agg #[.int .i64 0, .int .i64 0], .int .i64 5]) ∧ Below W.heap.size W w' := fun W =>
    at_far false 1099511627777 0 m2 (by unfold Near; omega) W
  have c7 : ∀ W, Calls Try.prog 30 #[isoF 0 false 1099511627776 (-1099511627776)] W fun e w' => e = .returned (.bool true) ∧ Below W.heap.size W w' := fun W => valid_yes false m1 W
  have d1 := Lib.hid c1
  have d2 := Lib.hid c2
  have d3 := Lib.hid c3
  have d4 := Lib.hid c4
  have d5 := Lib.hid c5
  have d6 := Lib.hid c6
  have d7 := Lib.hid c7
  clear c1 c2 c3 c4 c5 c6 c7 m1 m2
  unfold isoF isoZero at *
  generalize F (tvx 0) = x0 at *
  generalize F (tvy 0) = y0 at *
  generalize F 1099511627776 = z1 at *
  generalize F (-1099511627776) = z2 at *
  go_enter Try.func5, Try.ntmps5
  go_wp2_with fail
  refine (alive05 _).mono ?_
  rintro e w1 ⟨rfl, hb⟩
  obtain ⟨hc1, hf1⟩ := bcell hb
  have hs1 : w.heap.size ≤ w1.heap.size := by have := hb.size; (try simp at this); omega
  have hB1 := Lib.hid (below_then (B := w.heap.size) (w := w) (by repeat (first | exact Below.refl _ _ | refine Below.alloc ?_ (by first | omega | (simp; done) | (simp; omega)) _ | refine Below.setCell ?_ (by first | omega | (simp; done) | (simp; omega)) _ | refine Below.drew ?_)) hb (by first | omega | (simp; done) | (simp; omega)))
  clear hb
  go_wp2_with fail
  refine (d1.out _).mono ?_
  rintro e w2 ⟨rfl, hb⟩
  obtain ⟨hc2, hf2⟩ := bcell hb
  have hs2 : w.heap.size ≤ w2.heap.size := by have := hb.size; (try simp at this); omega
  have hB2 := Lib.hid (below_then (B := w.heap.size) (w := w) (by repeat (first | exact Below.refl _ _ | exact hB1.out | refine Below.alloc ?_ (by first | omega | (simp; done) | (simp; omega)) _ | refine Below.setCell ?_ (by first | omega | (simp; done) | (simp; omega)) _ | refine Below.drew ?_)) hb (by first | omega | (simp; done) | (simp; omega)))
  clear hb
  go_wp2_with fail
  refine (d2.out _).mono ?_
  rintro e w3 ⟨rfl, hb⟩
  obtain ⟨hc3, hf3⟩ := bcell hb
  have hs3 : w.heap.size ≤ w3.heap.size := by have := hb.size; (try simp at this); omega
  have hz3_0 : w2.heap.size < w3.heap.size := by have := hb.size; (try simp at this); omega
  have hB3 := Lib.hid (below_then (B := w.heap.size) (w := w) (by repeat (first | exact Below.refl _ _ | exact hB2.out | exact hB1.out | refine Below.alloc ?_ (by first | omega | (simp; done) | (simp; omega)) _ | refine Below.setCell ?_ (by first | omega | (simp; done) | (simp; omega)) _ | refine Below.drew ?_)) hb (by first | omega | (simp; done) | (simp; omega)))
  clear hb
  go_wp2_with fail
  refine (d3.out _).mono ?_
  rintro e w4 ⟨rfl, hb⟩
  obtain ⟨hc4, hf4⟩ := bcell hb
  have hs4 : w.heap.size ≤ w4.heap.size := by have := hb.size; (try simp at this); omega
  have hz4_0 : w2.heap.size < w4.heap.size := by have := hb.size; (try simp at this); omega
  have hz4_1 : w3.heap.size < w4.heap.size := by have := hb.size; (try simp at this); omega
  have hB4 := Lib.hid (below_then (B := w.heap.size) (w := w) (by repeat (first | exact Below.refl _ _ | exact hB3.out | exact hB2.out | exact hB1.out | refine Below.alloc ?_ (by first | omega | (simp; done) | (simp; omega)) _ | refine Below.setCell ?_ (by first | omega | (simp; done) | (simp; omega)) _ | refine Below.drew ?_)) hb (by first | omega | (simp; done) | (simp; omega)))
  clear hb
  go_wp2_with fail
  refine (d4.out _).mono ?_
  rintro e w5 ⟨rfl, hb⟩
  obtain ⟨hc5, hf5⟩ := bcell hb
  have hs5 : w.heap.size ≤ w5.heap.size := by have := hb.size; (try simp at this); omega
  have hz5_0 : w2.heap.size < w5.heap.size := by have := hb.size; (try simp at this); omega
  have hz5_1 : w3.heap.size < w5.heap.size := by have := hb.size; (try simp at this); omega
  have hz5_2 : w4.heap.size < w5.heap.size := by have := hb.size; (try simp at this); omega
  have hB5 := Lib.hid (below_then (B := w.heap.size) (w := w) (by repeat (first | exact Below.refl _ _ | exact hB4.out | exact hB3.out | exact hB2.out | exact hB1.out | refine Below.alloc ?_ (by first | omega | (simp; done) | (simp; omega)) _ | refine Below.setCell ?_ (by first | omega | (simp; done) | (simp; omega)) _ | refine Below.drew ?_)) hb (by first | omega | (simp; done) | (simp; omega)))
  clear hb
  go_wp2_with fail
  refine (d5.out _).mono ?_
  rintro e w6 ⟨rfl, hb⟩
  obtain ⟨hc6, hf6⟩ := bcell hb
  have hs6 : w.heap.size ≤ w6.heap.size := by have := hb.size; (try simp at this); omega
  have hz6_0 : w2.heap.size < w6.heap.size := by have := hb.size; (try simp at this); omega
  have hz6_1 : w3.heap.size < w6.heap.size := by have := hb.size; (try simp at this); omega
  have hz6_2 : w4.heap.size < w6.heap.size := by have := hb.size; (try simp at this); omega
  have hz6_3 : w5.heap.size < w6.heap.size := by have := hb.size; (try simp at this); omega
  have hB6 := Lib.hid (below_then (B := w.heap.size) (w := w) (by repeat (first | exact Below.refl _ _ | exact hB5.out | exact hB4.out | exact hB3.out | exact hB2.out | exact hB1.out | refine Below.alloc ?_ (by first | omega | (simp; done) | (simp; omega)) _ | refine Below.setCell ?_ (by first | omega | (simp; done) | (simp; omega)) _ | refine Below.drew ?_)) hb (by first | omega | (simp; done) | (simp; omega)))
  clear hb
  go_wp2_with fail
  refine (d6.out _).mono ?_
  rintro e w7 ⟨rfl, hb⟩
  obtain ⟨hc7, hf7⟩ := bcell hb
  have hs7 : w.heap.size ≤ w7.heap.size := by have := hb.size; (try simp at this); omega
  have hz7_0 : w2.heap.size < w7.heap.size := by have := hb.size; (try simp at this); omega
  have hz7_1 : w3.heap.size < w7.heap.size := by have := hb.size; (try simp at this); omega
  have hz7_2 : w4.heap.size < w7.heap.size := by have := hb.size; (try simp at this); omega
  have hz7_3 : w5.heap.size < w7.heap.size := by have := hb.size; (try simp at this); omega
  have hB7 := Lib.hid (below_then (B := w.heap.size) (w := w) (by repeat (first | exact Below.refl _ _ | exact hB6.out | exact hB5.out | exact hB4.out | exact hB3.out | exact hB2.out | exact hB1.out | refine Below.alloc ?_ (by first | omega | (simp; done) | (simp; omega)) _ | refine Below.setCell ?_ (by first | omega | (simp; done) | (simp; omega)) _ | refine Below.drew ?_)) hb (by first | omega | (simp; done) | (simp; omega)))
  clear hb
  go_wp2_with fail
  refine (d7.out _).mono ?_
  rintro e w8 ⟨rfl, hb⟩
  obtain ⟨hc8, hf8⟩ := bcell hb
  have hs8 : w.heap.size ≤ w8.heap.size := by have := hb.size; (try simp at this); omega
  have hz8_0 : w2.heap.size < w8.heap.size := by have := hb.size; (try simp at this); omega
  have hz8_1 : w3.heap.size < w8.heap.size := by have := hb.size; (try simp at this); omega
  have hz8_2 : w4.heap.size < w8.heap.size := by have := hb.size; (try simp at this); omega
  have hz8_3 : w5.heap.size < w8.heap.size := by have := hb.size; (try simp at this); omega
  have hz8_4 : w7.heap.size < w8.heap.size := by have := hb.size; (try simp at this); omega
  have hB8 := Lib.hid (below_then (B := w.heap.size) (w := w) (by repeat (first | exact Below.refl _ _ | exact hB7.out | exact hB6.out | exact hB5.out | exact hB4.out | exact hB3.out | exact hB2.out | exact hB1.out | refine Below.alloc ?_ (by first | omega | (simp; done) | (simp; omega)) _ | refine Below.setCell ?_ (by first | omega | (simp; done) | (simp; omega)) _ | refine Below.drew ?_)) hb (by first | omega | (simp; done) | (simp; omega)))
  clear hb
  go_wp2
  go_ret
  exact ⟨rfl, by repeat (first | exact Below.refl _ _ | exact hB8.out | exact hB7.out | exact hB6.out | exact hB5.out | exact hB4.out | exact hB3.out | exact hB2.out | exact hB1.out | refine Below.alloc ?_ (by first | omega | (simp; done) | (simp; omega)) _ | refine Below.setCell ?_ (by first | omega | (simp; done) | (simp; omega)) _ | refine Below.drew ?_)⟩
end Go.Proofs.Ytjomgjlicfoehaa
