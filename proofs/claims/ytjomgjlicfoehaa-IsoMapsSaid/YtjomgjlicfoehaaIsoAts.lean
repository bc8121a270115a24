import Derived.Test.YtjomgjlicfoehaaIsoJ
namespace Go.Proofs.Ytjomgjlicfoehaa
open Go.RowKit Flt
attribute [local go_sem] run_store_float run_store_complex unary_neg_float unary_neg_complex
set_option linter.unusedSimpArgs false
set_option linter.unusedVariables false

/-- A map's parts as they come in. -/
abbrev mapV (a b : Nat) (f : Bool) (c d : Nat) : Value := .agg #[.float .f64 a, .float .f64 b, .bool f, .float .f64 c, .float .f64 d]

set_option maxHeartbeats 1000000 in
theorem map_iso (a b c d : Nat) (f : Bool) (w : World) : Calls Try.prog 25 #[mapV a b f c d] w fun e w' => e = .returned (isoV a b f c d) ∧ Below w.heap.size w w' := by
  go_enter Try.func25, Try.ntmps25
  go_wp2
  exact bodyPost_ret (v := isoV a b f c d) (by simp [results, Try.results25, go_sem]) rfl ⟨rfl, by repeat (first | exact Below.refl _ _ | refine Below.alloc ?_ (by first | omega | (simp; done) | (simp; omega)) _ | refine Below.setCell ?_ (by first | omega | (simp; done) | (simp; omega)) _ | refine Below.drew ?_)⟩

/-- The program's answer and the document's are one. -/
theorem at_both (a b c d : Nat) (f : Bool) (px py : Int) (hw : Wide a b c d) : ∃ qx qy e : Int,
    (∀ W, Calls Try.prog 26 #[isoV a b f c d, .agg #[.int .i64 px, .int .i64 py]] W fun r w' => r = .returned (.tuple #[.agg #[.int .i64 qx, .int .i64 qy], .int .i64 e]) ∧ Below W.heap.size W w') ∧
    (∀ W, Calls Try.prog 27 #[isoV a b f c d, .agg #[.int .i64 px, .int .i64 py]] W fun r w' => r = .returned (.tuple #[.agg #[.int .i64 qx, .int .i64 qy], .int .i64 e]) ∧ Below W.heap.size W w') := by
  have near_iff : ∀ x y, Near x y ↔ nr x = true ∧ nr y = true := fun x y => by unfold Near nr; simp; omega
  by_cases h : ∃ k x y, IsMap a b c d k x y
  · obtain ⟨k, x, y, h⟩ := h
    by_cases hp : Near px py
    · obtain ⟨h1, h2⟩ := (near_iff _ _).1 hp
      by_cases hq : Near (dox k f x px py) (doy k f y px py)
      · obtain ⟨h3, h4⟩ := (near_iff _ _).1 hq
        exact ⟨_, _, 0, fun W => at_yes f px py h hp hq W, fun W => rat_yes f h h1 h2 h3 h4 W⟩
      · refine ⟨0, 0, 5, fun W => at_out f px py h hp hq W, fun W => ?_⟩
        cases h3 : nr (dox k f x px py) with
        | false => exact rat_outx f h h1 h2 h3 W
        | true =>
          cases h4 : nr (doy k f y px py) with
          | false => exact rat_outy f h h1 h2 h3 h4 W
          | true => exact absurd ((near_iff _ _).2 ⟨h3, h4⟩) hq
    · refine ⟨0, 0, 5, fun W => at_far f px py h hp W, fun W => ?_⟩
      cases h1 : nr px with
      | false => exact rat_farx f h h1 W
      | true =>
        cases h2 : nr py with
        | false => exact rat_fary f h h1 h2 W
        | true => exact absurd ((near_iff _ _).2 ⟨h1, h2⟩) hp
  · exact ⟨0, 0, 50, fun W => at_iso f px py hw h W, fun W => rat_iso f px py hw h W⟩

set_option maxHeartbeats 2000000 in
theorem isoAts_walk (a b c d : Nat) (f : Bool) (px py : Int) (hw : Wide a b c d) (w : World) :
    Calls Try.prog 4 #[mapV a b f c d, .agg #[.int .i64 px, .int .i64 py]] w fun e w' => e = .returned (.bool true) ∧ Below w.heap.size w w' := by
  obtain ⟨qx, qy, er, h1, h2⟩ := at_both a b c d f px py hw
  have d1 := Lib.hid h1
  have d2 := Lib.hid h2
  clear h1 h2 hw
  have he : ∀ w, (binOp .eql 30 (.agg #[.int .i64 qx, .int .i64 qy]) (.agg #[.int .i64 qx, .int .i64 qy])).run Try.prog w = .ok (.bool true) w := fun w => by
    rw [run_eq_pt]; simp
  go_enter Try.func4, Try.ntmps4
  go_wp2_with fail
  refine (alive05 _).mono ?_
  rintro e w1 ⟨rfl, hb⟩
  obtain ⟨hc1, hf1⟩ := bcell hb
  have hs1 : w.heap.size ≤ w1.heap.size := by have := hb.size; (try simp at this); omega
  have hz1_0 : w.heap.size < w1.heap.size := by have := hb.size; (try simp at this); omega
  have hz1_1 : w.heap.size + 1 < w1.heap.size := by have := hb.size; (try simp at this); omega
  have hB1 := Lib.hid (below_then (B := w.heap.size) (w := w) (by repeat (first | exact Below.refl _ _ | refine Below.alloc ?_ (by first | omega | (simp; done) | (simp; omega)) _ | refine Below.setCell ?_ (by first | omega | (simp; done) | (simp; omega)) _ | refine Below.drew ?_)) hb (by first | omega | (simp; done) | (simp; omega)))
  clear hb
  go_wp2_with fail
  refine (map_iso _ _ _ _ _ _).mono ?_
  rintro e w2 ⟨rfl, hb⟩
  obtain ⟨hc2, hf2⟩ := bcell hb
  have hs2 : w.heap.size ≤ w2.heap.size := by have := hb.size; (try simp at this); omega
  have hz2_0 : w.heap.size < w2.heap.size := by have := hb.size; (try simp at this); omega
  have hz2_1 : w.heap.size + 1 < w2.heap.size := by have := hb.size; (try simp at this); omega
  have hB2 := Lib.hid (below_then (B := w.heap.size) (w := w) (by repeat (first | exact Below.refl _ _ | exact hB1.out | refine Below.alloc ?_ (by first | omega | (simp; done) | (simp; omega)) _ | refine Below.setCell ?_ (by first | omega | (simp; done) | (simp; omega)) _ | refine Below.drew ?_)) hb (by first | omega | (simp; done) | (simp; omega)))
  clear hb
  go_wp2_with fail
  refine (d1.out _).mono ?_
  rintro e w3 ⟨rfl, hb⟩
  obtain ⟨hc3, hf3⟩ := bcell hb
  have hs3 : w.heap.size ≤ w3.heap.size := by have := hb.size; (try simp at this); omega
  have hz3_0 : w.heap.size < w3.heap.size := by have := hb.size; (try simp at this); omega
  have hz3_1 : w.heap.size + 1 < w3.heap.size := by have := hb.size; (try simp at this); omega
  have hz3_2 : w2.heap.size < w3.heap.size := by have := hb.size; (try simp at this); omega
  have hB3 := Lib.hid (below_then (B := w.heap.size) (w := w) (by repeat (first | exact Below.refl _ _ | exact hB2.out | exact hB1.out | refine Below.alloc ?_ (by first | omega | (simp; done) | (simp; omega)) _ | refine Below.setCell ?_ (by first | omega | (simp; done) | (simp; omega)) _ | refine Below.drew ?_)) hb (by first | omega | (simp; done) | (simp; omega)))
  clear hb
  go_wp2_with fail
  refine (d2.out _).mono ?_
  rintro e w4 ⟨rfl, hb⟩
  obtain ⟨hc4, hf4⟩ := bcell hb
  have hs4 : w.heap.size ≤ w4.heap.size := by have := hb.size; (try simp at this); omega
  have hz4_0 : w.heap.size < w4.heap.size := by have := hb.size; (try simp at this); omega
  have hz4_1 : w.heap.size + 1 < w4.heap.size := by have := hb.size; (try simp at this); omega
  have hz4_2 : w2.heap.size < w4.heap.size := by have := hb.size; (try simp at this); omega
  have hz4_3 : w3.heap.size < w4.heap.size := by have := hb.size; (try simp at this); omega
  have hB4 := Lib.hid (below_then (B := w.heap.size) (w := w) (by repeat (first | exact Below.refl _ _ | exact hB3.out | exact hB2.out | exact hB1.out | refine Below.alloc ?_ (by first | omega | (simp; done) | (simp; omega)) _ | refine Below.setCell ?_ (by first | omega | (simp; done) | (simp; omega)) _ | refine Below.drew ?_)) hb (by first | omega | (simp; done) | (simp; omega)))
  clear hb
  go_wp2
  go_ret
  exact ⟨rfl, by repeat (first | exact Below.refl _ _ | exact hB4.out | exact hB3.out | exact hB2.out | exact hB1.out | refine Below.alloc ?_ (by first | omega | (simp; done) | (simp; omega)) _ | refine Below.setCell ?_ (by first | omega | (simp; done) | (simp; omega)) _ | refine Below.drew ?_)⟩
end Go.Proofs.Ytjomgjlicfoehaa
