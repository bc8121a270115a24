import Derived.Test.YtjomgjlicfoehaaIsoE
import Derived.Deep.RegionHeld3
namespace Go.Proofs.Ytjomgjlicfoehaa
open Go.RowKit Flt
attribute [local go_sem] run_store_float run_store_complex unary_neg_float unary_neg_complex
set_option linter.unusedSimpArgs false
set_option linter.unusedVariables false

theorem below_then {B : Nat} {w w1 w2 : World} (h : Below B w w1) (k : Below w1.heap.size w1 w2) (hB : B ≤ w1.heap.size) : Below B w w2 :=
  h.trans ⟨k.os, k.tape, k.output, k.size, fun i hi => k.block i (Nat.lt_of_lt_of_le hi hB)⟩

set_option maxHeartbeats 1000000 in
theorem at_iso {a b c d : Nat} (f : Bool) (px py : Int) (hw : Wide a b c d) (h : ¬ ∃ k x y, IsMap a b c d k x y) (w : World) :
    Calls Try.prog 26 #[isoV a b f c d, .agg #[.int .i64 px, .int .i64 py]] w fun e w' => e = .returned (.tuple #[.agg #[.int .i64 0, .int .i64 0], .int .i64 50]) ∧ Below w.heap.size w w' := by
  have K10 := fun W => valid_no f hw h W
  have K1 := Lib.hid K10
  clear K10
  clear h hw
  go_enter Try.func26, Try.ntmps26
  go_wp2_with fail
  refine (K1.out _).mono ?_
  rintro e w1 ⟨rfl, hb⟩
  obtain ⟨hc1, hf1⟩ := bcell hb
  have hs1 : w.heap.size ≤ w1.heap.size := by have := hb.size; (try simp at this); omega
  have hz1_0 : w.heap.size < w1.heap.size := by have := hb.size; (try simp at this); omega
  have hz1_1 : w.heap.size + 1 < w1.heap.size := by have := hb.size; (try simp at this); omega
  have hz1_2 : w.heap.size + 1 + 1 < w1.heap.size := by have := hb.size; (try simp at this); omega
  have hB1 := Lib.hid (below_then (B := w.heap.size) (w := w) (by repeat (first | exact Below.refl _ _ | refine Below.alloc ?_ (by first | omega | (simp; done) | (simp; omega)) _ | refine Below.setCell ?_ (by first | omega | (simp; done) | (simp; omega)) _ | refine Below.drew ?_)) hb (by first | omega | (simp; done) | (simp; omega)))
  clear hb
  go_wp2
  exact bodyPost_ret (v := .tuple #[.agg #[.int .i64 0, .int .i64 0], .int .i64 50]) (by simp [results, Try.results26, go_sem, hc1, hz1_0, hz1_1, hz1_2]) rfl ⟨rfl, by repeat (first | exact Below.refl _ _ | exact hB1.out | refine Below.alloc ?_ (by first | omega | (simp; done) | (simp; omega)) _ | refine Below.setCell ?_ (by first | omega | (simp; done) | (simp; omega)) _ | refine Below.drew ?_)⟩

set_option maxHeartbeats 1000000 in
theorem at_far {a b c d k : Nat} {x y : Int} (f : Bool) (px py : Int) (h : IsMap a b c d k x y) (hn : ¬ Near px py) (w : World) :
    Calls Try.prog 26 #[isoV a b f c d, .agg #[.int .i64 px, .int .i64 py]] w fun e w' => e = .returned (.tuple #[.agg #[.int .i64 0, .int .i64 0], .int .i64 5]) ∧ Below w.heap.size w w' := by
  have K10 := fun W => valid_yes f h W
  have K1 := Lib.hid K10
  clear K10
  have K20 := fun W => near_no hn W
  have K2 := Lib.hid K20
  clear K20
  clear h hn
  go_enter Try.func26, Try.ntmps26
  go_wp2_with fail
  refine (K1.out _).mono ?_
  rintro e w1 ⟨rfl, hb⟩
  obtain ⟨hc1, hf1⟩ := bcell hb
  have hs1 : w.heap.size ≤ w1.heap.size := by have := hb.size; (try simp at this); omega
  have hz1_0 : w.heap.size < w1.heap.size := by have := hb.size; (try simp at this); omega
  have hz1_1 : w.heap.size + 1 < w1.heap.size := by have := hb.size; (try simp at this); omega
  have hz1_2 : w.heap.size + 1 + 1 < w1.heap.size := by have := hb.size; (try simp at this); omega
  have hB1 := Lib.hid (below_then (B := w.heap.size) (w := w) (by repeat (first | exact Below.refl _ _ | refine Below.alloc ?_ (by first | omega | (simp; done) | (simp; omega)) _ | refine Below.setCell ?_ (by first | omega | (simp; done) | (simp; omega)) _ | refine Below.drew ?_)) hb (by first | omega | (simp; done) | (simp; omega)))
  clear hb
  go_wp2_with fail
  refine (K2.out _).mono ?_
  rintro e w2 ⟨rfl, hb⟩
  obtain ⟨hc2, hf2⟩ := bcell hb
  have hs2 : w.heap.size ≤ w2.heap.size := by have := hb.size; (try simp at this); omega
  have hz2_0 : w.heap.size < w2.heap.size := by have := hb.size; (try simp at this); omega
  have hz2_1 : w.heap.size + 1 < w2.heap.size := by have := hb.size; (try simp at this); omega
  have hz2_2 : w.heap.size + 1 + 1 < w2.heap.size := by have := hb.size; (try simp at this); omega
  have hB2 := Lib.hid (below_then (B := w.heap.size) (w := w) (by repeat (first | exact Below.refl _ _ | exact hB1.out | refine Below.alloc ?_ (by first | omega | (simp; done) | (simp; omega)) _ | refine Below.setCell ?_ (by first | omega | (simp; done) | (simp; omega)) _ | refine Below.drew ?_)) hb (by first | omega | (simp; done) | (simp; omega)))
  clear hb
  go_wp2
  exact bodyPost_ret (v := .tuple #[.agg #[.int .i64 0, .int .i64 0], .int .i64 5]) (by simp [results, Try.results26, go_sem, hc1, hc2, hz1_0, hz1_1, hz1_2, hz2_0, hz2_1, hz2_2]) rfl ⟨rfl, by repeat (first | exact Below.refl _ _ | exact hB2.out | exact hB1.out | refine Below.alloc ?_ (by first | omega | (simp; done) | (simp; omega)) _ | refine Below.setCell ?_ (by first | omega | (simp; done) | (simp; omega)) _ | refine Below.drew ?_)⟩

theorem dox_bound {k : Nat} (hk : k < 4) (f : Bool) {x y u v : Int} (hx : x.natAbs ≤ 1099511627776) (hy : y.natAbs ≤ 1099511627776) (hn : Near u v) :
    (dox k f x u v).natAbs ≤ 4398046511104 ∧ (doy k f y u v).natAbs ≤ 4398046511104 := by
  unfold Near at hn
  unfold dox doy fl
  rcases tv_cases hk with ⟨h1, h2⟩ | ⟨h1, h2⟩ | ⟨h1, h2⟩ | ⟨h1, h2⟩ <;> rw [h1, h2] <;> cases f <;> simp <;> omega

theorem conv_int {x : Nat} {z : Int} (h : IsInt x z) (hz : z.natAbs ≤ 4398046511104) : floatToIntVal .f64 x .i64 = some z := by
  obtain ⟨s, v, rfl, rfl, hv⟩ := h
  unfold floatToIntVal
  have hd : (FloatKind.f64.decode (G s v)).toInt .zero = some (sg s v) := toInt_G s v hv
  rw [hd]
  have : (IntKind.i64.min ≤ sg s v ∧ sg s v ≤ IntKind.i64.max) := by
    have a1 : IntKind.i64.min = -9223372036854775808 := by decide
    have a2 : IntKind.i64.max = 9223372036854775807 := by decide
    rw [a1, a2]
    omega
  simp only [this, and_self, if_true]

set_option maxHeartbeats 2000000 in
theorem at_yes {a b c d k : Nat} {x y : Int} (f : Bool) (px py : Int) (h : IsMap a b c d k x y) (hn : Near px py) (hr : Near (dox k f x px py) (doy k f y px py)) (w : World) :
    Calls Try.prog 26 #[isoV a b f c d, .agg #[.int .i64 px, .int .i64 py]] w fun e w' => e = .returned (.tuple #[.agg #[.int .i64 (dox k f x px py), .int .i64 (doy k f y px py)], .int .i64 0]) ∧ Below w.heap.size w w' := by
  obtain ⟨b1, b2⟩ := dox_bound h.turn.1 f h.x.2 h.y.2 hn
  have K10 := fun W => valid_yes f h W
  have K1 := Lib.hid K10
  clear K10
  have K20 := fun W => near_yes hn W
  have K2 := Lib.hid K20
  clear K20
  have hx := floatOfInt_F px (by unfold Near at hn; omega)
  have hy := floatOfInt_F py (by unfold Near at hn; omega)
  have K30 := fun W => does_int f h.turn h.x.1 h.y.1 (isInt_F px (by unfold Near at hn; omega)) (isInt_F py (by unfold Near at hn; omega)) (by have := h.x.2; omega) (by have := h.y.2; omega) (by unfold Near at hn; omega) (by unfold Near at hn; omega) W
  have K3 := Lib.hid K30
  clear K30
  have K40 := fun W => near_yes hr W
  have K4 := Lib.hid K40
  clear K40
  clear h hn hr
  generalize dox k f x px py = qx at *
  generalize doy k f y px py = qy at *
  go_enter Try.func26, Try.ntmps26
  go_wp2_with fail
  refine (K1.out _).mono ?_
  rintro e w1 ⟨rfl, hb⟩
  obtain ⟨hc1, hf1⟩ := bcell hb
  have hs1 : w.heap.size ≤ w1.heap.size := by have := hb.size; (try simp at this); omega
  have hz1_0 : w.heap.size < w1.heap.size := by have := hb.size; (try simp at this); omega
  have hz1_1 : w.heap.size + 1 < w1.heap.size := by have := hb.size; (try simp at this); omega
  have hz1_2 : w.heap.size + 1 + 1 < w1.heap.size := by have := hb.size; (try simp at this); omega
  have hB1 := Lib.hid (below_then (B := w.heap.size) (w := w) (by repeat (first | exact Below.refl _ _ | refine Below.alloc ?_ (by first | omega | (simp; done) | (simp; omega)) _ | refine Below.setCell ?_ (by first | omega | (simp; done) | (simp; omega)) _ | refine Below.drew ?_)) hb (by first | omega | (simp; done) | (simp; omega)))
  clear hb
  go_wp2_with fail
  refine (K2.out _).mono ?_
  rintro e w2 ⟨rfl, hb⟩
  obtain ⟨hc2, hf2⟩ := bcell hb
  have hs2 : w.heap.size ≤ w2.heap.size := by have := hb.size; (try simp at this); omega
  have hz2_0 : w.heap.size < w2.heap.size := by have := hb.size; (try simp at this); omega
  have hz2_1 : w.heap.size + 1 < w2.heap.size := by have := hb.size; (try simp at this); omega
  have hz2_2 : w.heap.size + 1 + 1 < w2.heap.size := by have := hb.size; (try simp at this); omega
  have hB2 := Lib.hid (below_then (B := w.heap.size) (w := w) (by repeat (first | exact Below.refl _ _ | exact hB1.out | refine Below.alloc ?_ (by first | omega | (simp; done) | (simp; omega)) _ | refine Below.setCell ?_ (by first | omega | (simp; done) | (simp; omega)) _ | refine Below.drew ?_)) hb (by first | omega | (simp; done) | (simp; omega)))
  clear hb
  go_wp2_with fail
  refine (K3.out _).mono ?_
  rintro e w3 ⟨r, i, rfl, hr, hi, hb⟩
  obtain ⟨hc3, hf3⟩ := bcell hb
  have hs3 : w.heap.size ≤ w3.heap.size := by have := hb.size; (try simp at this); omega
  have hz3_0 : w.heap.size < w3.heap.size := by have := hb.size; (try simp at this); omega
  have hz3_1 : w.heap.size + 1 < w3.heap.size := by have := hb.size; (try simp at this); omega
  have hz3_2 : w.heap.size + 1 + 1 < w3.heap.size := by have := hb.size; (try simp at this); omega
  have hB3 := Lib.hid (below_then (B := w.heap.size) (w := w) (by repeat (first | exact Below.refl _ _ | exact hB2.out | exact hB1.out | refine Below.alloc ?_ (by first | omega | (simp; done) | (simp; omega)) _ | refine Below.setCell ?_ (by first | omega | (simp; done) | (simp; omega)) _ | refine Below.drew ?_)) hb (by first | omega | (simp; done) | (simp; omega)))
  clear hb
  have hcr := fun W => run_convert_float_int (P := Try.prog) W 32 3 .f64 .i64 r _ (by rw [Try.underlying32]; rfl) Try.underlying3 (conv_int hr b1)
  have hci := fun W => run_convert_float_int (P := Try.prog) W 32 3 .f64 .i64 i _ (by rw [Try.underlying32]; rfl) Try.underlying3 (conv_int hi b2)
  clear hr hi b1 b2
  go_wp2_with fail
  refine (K4.out _).mono ?_
  rintro e w4 ⟨rfl, hb⟩
  obtain ⟨hc4, hf4⟩ := bcell hb
  have hs4 : w.heap.size ≤ w4.heap.size := by have := hb.size; (try simp at this); omega
  have hz4_0 : w.heap.size < w4.heap.size := by have := hb.size; (try simp at this); omega
  have hz4_1 : w.heap.size + 1 < w4.heap.size := by have := hb.size; (try simp at this); omega
  have hz4_2 : w.heap.size + 1 + 1 < w4.heap.size := by have := hb.size; (try simp at this); omega
  have hB4 := Lib.hid (below_then (B := w.heap.size) (w := w) (by repeat (first | exact Below.refl _ _ | exact hB3.out | exact hB2.out | exact hB1.out | refine Below.alloc ?_ (by first | omega | (simp; done) | (simp; omega)) _ | refine Below.setCell ?_ (by first | omega | (simp; done) | (simp; omega)) _ | refine Below.drew ?_)) hb (by first | omega | (simp; done) | (simp; omega)))
  clear hb
  go_wp2
  exact bodyPost_ret (v := .tuple #[.agg #[.int .i64 qx, .int .i64 qy], .int .i64 0]) (by simp [results, Try.results26, go_sem, hc1, hc2, hc3, hc4, hz1_0, hz1_1, hz1_2, hz2_0, hz2_1, hz2_2, hz3_0, hz3_1, hz3_2, hz4_0, hz4_1, hz4_2]) rfl ⟨rfl, by repeat (first | exact Below.refl _ _ | exact hB4.out | exact hB3.out | exact hB2.out | exact hB1.out | refine Below.alloc ?_ (by first | omega | (simp; done) | (simp; omega)) _ | refine Below.setCell ?_ (by first | omega | (simp; done) | (simp; omega)) _ | refine Below.drew ?_)⟩

set_option maxHeartbeats 2000000 in
theorem at_out {a b c d k : Nat} {x y : Int} (f : Bool) (px py : Int) (h : IsMap a b c d k x y) (hn : Near px py) (hr : ¬ Near (dox k f x px py) (doy k f y px py)) (w : World) :
    Calls Try.prog 26 #[isoV a b f c d, .agg #[.int .i64 px, .int .i64 py]] w fun e w' => e = .returned (.tuple #[.agg #[.int .i64 0, .int .i64 0], .int .i64 5]) ∧ Below w.heap.size w w' := by
  obtain ⟨b1, b2⟩ := dox_bound h.turn.1 f h.x.2 h.y.2 hn
  have K10 := fun W => valid_yes f h W
  have K1 := Lib.hid K10
  clear K10
  have K20 := fun W => near_yes hn W
  have K2 := Lib.hid K20
  clear K20
  have hx := floatOfInt_F px (by unfold Near at hn; omega)
  have hy := floatOfInt_F py (by unfold Near at hn; omega)
  have K30 := fun W => does_int f h.turn h.x.1 h.y.1 (isInt_F px (by unfold Near at hn; omega)) (isInt_F py (by unfold Near at hn; omega)) (by have := h.x.2; omega) (by have := h.y.2; omega) (by unfold Near at hn; omega) (by unfold Near at hn; omega) W
  have K3 := Lib.hid K30
  clear K30
  have K40 := fun W => near_no hr W
  have K4 := Lib.hid K40
  clear K40
  clear h hn hr
  generalize dox k f x px py = qx at *
  generalize doy k f y px py = qy at *
  go_enter Try.func26, Try.ntmps26
  go_wp2_with fail
  refine (K1.out _).mono ?_
  rintro e w1 ⟨rfl, hb⟩
  obtain ⟨hc1, hf1⟩ := bcell hb
  have hs1 : w.heap.size ≤ w1.heap.size := by have := hb.size; (try simp at this); omega
  have hz1_0 : w.heap.size < w1.heap.size := by have := hb.size; (try simp at this); omega
  have hz1_1 : w.heap.size + 1 < w1.heap.size := by have := hb.size; (try simp at this); omega
  have hz1_2 : w.heap.size + 1 + 1 < w1.heap.size := by have := hb.size; (try simp at this); omega
  have hB1 := Lib.hid (below_then (B := w.heap.size) (w := w) (by repeat (first | exact Below.refl _ _ | refine Below.alloc ?_ (by first | omega | (simp; done) | (simp; omega)) _ | refine Below.setCell ?_ (by first | omega | (simp; done) | (simp; omega)) _ | refine Below.drew ?_)) hb (by first | omega | (simp; done) | (simp; omega)))
  clear hb
  go_wp2_with fail
  refine (K2.out _).mono ?_
  rintro e w2 ⟨rfl, hb⟩
  obtain ⟨hc2, hf2⟩ := bcell hb
  have hs2 : w.heap.size ≤ w2.heap.size := by have := hb.size; (try simp at this); omega
  have hz2_0 : w.heap.size < w2.heap.size := by have := hb.size; (try simp at this); omega
  have hz2_1 : w.heap.size + 1 < w2.heap.size := by have := hb.size; (try simp at this); omega
  have hz2_2 : w.heap.size + 1 + 1 < w2.heap.size := by have := hb.size; (try simp at this); omega
  have hB2 := Lib.hid (below_then (B := w.heap.size) (w := w) (by repeat (first | exact Below.refl _ _ | exact hB1.out | refine Below.alloc ?_ (by first | omega | (simp; done) | (simp; omega)) _ | refine Below.setCell ?_ (by first | omega | (simp; done) | (simp; omega)) _ | refine Below.drew ?_)) hb (by first | omega | (simp; done) | (simp; omega)))
  clear hb
  go_wp2_with fail
  refine (K3.out _).mono ?_
  rintro e w3 ⟨r, i, rfl, hr, hi, hb⟩
  obtain ⟨hc3, hf3⟩ := bcell hb
  have hs3 : w.heap.size ≤ w3.heap.size := by have := hb.size; (try simp at this); omega
  have hz3_0 : w.heap.size < w3.heap.size := by have := hb.size; (try simp at this); omega
  have hz3_1 : w.heap.size + 1 < w3.heap.size := by have := hb.size; (try simp at this); omega
  have hz3_2 : w.heap.size + 1 + 1 < w3.heap.size := by have := hb.size; (try simp at this); omega
  have hB3 := Lib.hid (below_then (B := w.heap.size) (w := w) (by repeat (first | exact Below.refl _ _ | exact hB2.out | exact hB1.out | refine Below.alloc ?_ (by first | omega | (simp; done) | (simp; omega)) _ | refine Below.setCell ?_ (by first | omega | (simp; done) | (simp; omega)) _ | refine Below.drew ?_)) hb (by first | omega | (simp; done) | (simp; omega)))
  clear hb
  have hcr := fun W => run_convert_float_int (P := Try.prog) W 32 3 .f64 .i64 r _ (by rw [Try.underlying32]; rfl) Try.underlying3 (conv_int hr b1)
  have hci := fun W => run_convert_float_int (P := Try.prog) W 32 3 .f64 .i64 i _ (by rw [Try.underlying32]; rfl) Try.underlying3 (conv_int hi b2)
  clear hr hi b1 b2
  go_wp2_with fail
  refine (K4.out _).mono ?_
  rintro e w4 ⟨rfl, hb⟩
  obtain ⟨hc4, hf4⟩ := bcell hb
  have hs4 : w.heap.size ≤ w4.heap.size := by have := hb.size; (try simp at this); omega
  have hz4_0 : w.heap.size < w4.heap.size := by have := hb.size; (try simp at this); omega
  have hz4_1 : w.heap.size + 1 < w4.heap.size := by have := hb.size; (try simp at this); omega
  have hz4_2 : w.heap.size + 1 + 1 < w4.heap.size := by have := hb.size; (try simp at this); omega
  have hB4 := Lib.hid (below_then (B := w.heap.size) (w := w) (by repeat (first | exact Below.refl _ _ | exact hB3.out | exact hB2.out | exact hB1.out | refine Below.alloc ?_ (by first | omega | (simp; done) | (simp; omega)) _ | refine Below.setCell ?_ (by first | omega | (simp; done) | (simp; omega)) _ | refine Below.drew ?_)) hb (by first | omega | (simp; done) | (simp; omega)))
  clear hb
  go_wp2
  exact bodyPost_ret (v := .tuple #[.agg #[.int .i64 0, .int .i64 0], .int .i64 5]) (by simp [results, Try.results26, go_sem, hc1, hc2, hc3, hc4, hz1_0, hz1_1, hz1_2, hz2_0, hz2_1, hz2_2, hz3_0, hz3_1, hz3_2, hz4_0, hz4_1, hz4_2]) rfl ⟨rfl, by repeat (first | exact Below.refl _ _ | exact hB4.out | exact hB3.out | exact hB2.out | exact hB1.out | refine Below.alloc ?_ (by first | omega | (simp; done) | (simp; omega)) _ | refine Below.setCell ?_ (by first | omega | (simp; done) | (simp; omega)) _ | refine Below.drew ?_)⟩

theorem cell_kept {W w3 : World} {b o : Nat} {v : Value} (hb : Below W.heap.size W w3) (h : W.cell? ⟨b, o, none⟩ = some v) : w3.cell? ⟨b, o, none⟩ = some v :=
  (hb.cell (World.block_lt_of_cell? W _ h)).trans h
theorem froz_kept {W w3 : World} {b : Nat} {v : Value} (hb : Below W.heap.size W w3) (h : W.cell? ⟨b, 0, none⟩ = some v) (hf : ∀ o, W.frozen? ⟨b, o, none⟩ = false) : ∀ o, w3.frozen? ⟨b, o, none⟩ = false :=
  fun o => (hb.frozen (p := ⟨b, o, none⟩) (World.block_lt_of_cell? W ⟨b, 0, none⟩ h)).trans (hf o)
/-- The cells of two maps and of a result. -/
structure Nine (w : World) (n : Nat) (a b c a' b' c' : Value) : Prop where
  s1 : w.cell? ⟨n, 0, none⟩ = some a
  s2 : w.cell? ⟨n, 1, none⟩ = some b
  s3 : w.cell? ⟨n, 2, none⟩ = some c
  s4 : w.cell? ⟨n + 1, 0, none⟩ = some a'
  s5 : w.cell? ⟨n + 1, 1, none⟩ = some b'
  s6 : w.cell? ⟨n + 1, 2, none⟩ = some c'
  s7 : w.cell? ⟨n + 1 + 1, 0, none⟩ = some (.complex .f64 0 0)
  s8 : w.cell? ⟨n + 1 + 1, 1, none⟩ = some (.bool false)
  s9 : w.cell? ⟨n + 1 + 1, 2, none⟩ = some (.complex .f64 0 0)
  s10 : ∀ o, w.frozen? ⟨n + 1 + 1, o, none⟩ = false
theorem Nine.kept {W w3 : World} {n : Nat} {a b c a' b' c' : Value} (h : Nine W n a b c a' b' c') (hb : Below W.heap.size W w3) : Nine w3 n a b c a' b' c' :=
  ⟨cell_kept hb h.s1, cell_kept hb h.s2, cell_kept hb h.s3, cell_kept hb h.s4, cell_kept hb h.s5, cell_kept hb h.s6, cell_kept hb h.s7, cell_kept hb h.s8, cell_kept hb h.s9, froz_kept hb h.s7 h.s10⟩
theorem Nine.drew {w : World} {n : Nat} {a b c a' b' c' : Value} (h : Nine w n a b c a' b' c') : Nine w.drew n a b c a' b' c' := ⟨h.s1, h.s2, h.s3, h.s4, h.s5, h.s6, h.s7, h.s8, h.s9, h.s10⟩

/-! ### Then -/
set_option maxHeartbeats 1000000 in
theorem then_no1 {a b c d a' b' c' d' : Nat} (f g : Bool) (hw : Wide a b c d) (h : ¬ ∃ k x y, IsMap a b c d k x y) (w : World) :
    Calls Try.prog 36 #[isoV a b f c d, isoV a' b' g c' d'] w fun e w' => e = .returned (.tuple #[isoZero, .int .i64 50]) ∧ Below w.heap.size w w' := by
  have K10 := fun W => valid_no f hw h W
  have K1 := Lib.hid K10
  clear K10
  clear h hw
  go_enter Try.func36, Try.ntmps36
  go_wp2_with fail
  refine (K1.out _).mono ?_
  rintro e w1 ⟨rfl, hb⟩
  obtain ⟨hc1, hf1⟩ := bcell hb
  have hs1 : w.heap.size ≤ w1.heap.size := by have := hb.size; (try simp at this); omega
  have hz1_0 : w.heap.size < w1.heap.size := by have := hb.size; (try simp at this); omega
  have hz1_1 : w.heap.size + 1 < w1.heap.size := by have := hb.size; (try simp at this); omega
  have hz1_2 : w.heap.size + 1 + 1 < w1.heap.size := by have := hb.size; (try simp at this); omega
  have hB1 := Lib.hid (below_then (B := w.heap.size) (w := w) (by repeat (first | exact Below.refl _ _ | refine Below.alloc ?_ (by first | omega | (simp; done) | (simp; omega)) _ | refine Below.setCell ?_ (by first | omega | (simp; done) | (simp; omega)) _ | refine Below.drew ?_)) hb (by first | omega | (simp; done) | (simp; omega)))
  clear hb
  go_wp2
  exact bodyPost_ret (v := .tuple #[isoZero, .int .i64 50]) (by simp [results, Try.results36, go_sem, hc1, hz1_0, hz1_1, hz1_2, isoZero]) rfl ⟨rfl, by repeat (first | exact Below.refl _ _ | exact hB1.out | refine Below.alloc ?_ (by first | omega | (simp; done) | (simp; omega)) _ | refine Below.setCell ?_ (by first | omega | (simp; done) | (simp; omega)) _ | refine Below.drew ?_)⟩

set_option maxHeartbeats 1000000 in
theorem then_no2 {a b c d a' b' c' d' k : Nat} {x y : Int} (f g : Bool) (h : IsMap a b c d k x y) (hw : Wide a' b' c' d') (h' : ¬ ∃ k x y, IsMap a' b' c' d' k x y) (w : World) :
    Calls Try.prog 36 #[isoV a b f c d, isoV a' b' g c' d'] w fun e w' => e = .returned (.tuple #[isoZero, .int .i64 50]) ∧ Below w.heap.size w w' := by
  have K10 := fun W => valid_yes f h W
  have K1 := Lib.hid K10
  clear K10
  have K20 := fun W => valid_no g hw h' W
  have K2 := Lib.hid K20
  clear K20
  clear h hw h'
  go_enter Try.func36, Try.ntmps36
  go_wp2_with fail
  refine (K1.out _).mono ?_
  rintro e w1 ⟨rfl, hb⟩
  obtain ⟨hc1, hf1⟩ := bcell hb
  have hs1 : w.heap.size ≤ w1.heap.size := by have := hb.size; (try simp at this); omega
  have hz1_0 : w.heap.size < w1.heap.size := by have := hb.size; (try simp at this); omega
  have hz1_1 : w.heap.size + 1 < w1.heap.size := by have := hb.size; (try simp at this); omega
  have hz1_2 : w.heap.size + 1 + 1 < w1.heap.size := by have := hb.size; (try simp at this); omega
  have hB1 := Lib.hid (below_then (B := w.heap.size) (w := w) (by repeat (first | exact Below.refl _ _ | refine Below.alloc ?_ (by first | omega | (simp; done) | (simp; omega)) _ | refine Below.setCell ?_ (by first | omega | (simp; done) | (simp; omega)) _ | refine Below.drew ?_)) hb (by first | omega | (simp; done) | (simp; omega)))
  clear hb
  go_wp2_with fail
  refine (K2.out _).mono ?_
  rintro e w2 ⟨rfl, hb⟩
  obtain ⟨hc2, hf2⟩ := bcell hb
  have hs2 : w.heap.size ≤ w2.heap.size := by have := hb.size; (try simp at this); omega
  have hz2_0 : w.heap.size < w2.heap.size := by have := hb.size; (try simp at this); omega
  have hz2_1 : w.heap.size + 1 < w2.heap.size := by have := hb.size; (try simp at this); omega
  have hz2_2 : w.heap.size + 1 + 1 < w2.heap.size := by have := hb.size; (try simp at this); omega
  have hB2 := Lib.hid (below_then (B := w.heap.size) (w := w) (by repeat (first | exact Below.refl _ _ | exact hB1.out | refine Below.alloc ?_ (by first | omega | (simp; done) | (simp; omega)) _ | refine Below.setCell ?_ (by first | omega | (simp; done) | (simp; omega)) _ | refine Below.drew ?_)) hb (by first | omega | (simp; done) | (simp; omega)))
  clear hb
  go_wp2
  exact bodyPost_ret (v := .tuple #[isoZero, .int .i64 50]) (by simp [results, Try.results36, go_sem, hc1, hc2, hz1_0, hz1_1, hz1_2, hz2_0, hz2_1, hz2_2, isoZero]) rfl ⟨rfl, by repeat (first | exact Below.refl _ _ | exact hB2.out | exact hB1.out | refine Below.alloc ?_ (by first | omega | (simp; done) | (simp; omega)) _ | refine Below.setCell ?_ (by first | omega | (simp; done) | (simp; omega)) _ | refine Below.drew ?_)⟩

/-- The Turn of the two, one behind the other. -/
def thenK (k : Nat) (l : Nat) (g : Bool) : Nat := if g then (l + (4 - k)) % 4 else (l + k) % 4
theorem thenK_lt (k l : Nat) (g : Bool) : thenK k l g < 4 := by unfold thenK; split <;> omega

theorem fl_tv {k l : Nat} (hk : k < 4) (hl : l < 4) (g : Bool) : tvx l * tvx k - tvy l * fl g (tvy k) = tvx (thenK k l g) ∧ tvx l * fl g (tvy k) + tvy l * tvx k = tvy (thenK k l g) := by
  have hk' : k = 0 ∨ k = 1 ∨ k = 2 ∨ k = 3 := by omega
  have hl' : l = 0 ∨ l = 1 ∨ l = 2 ∨ l = 3 := by omega
  rcases hk' with rfl | rfl | rfl | rfl <;> rcases hl' with rfl | rfl | rfl | rfl <;> cases g <;> decide

def nearB (x y : Int) : Bool := decide (-1099511627776 ≤ x ∧ x ≤ 1099511627776 ∧ -1099511627776 ≤ y ∧ y ≤ 1099511627776)
theorem nearB_yes {x y : Int} (h : Near x y) : nearB x y = true := decide_eq_true h
theorem nearB_no {x y : Int} (h : ¬ Near x y) : nearB x y = false := decide_eq_false h
theorem F_lt (z : Int) (h : z.natAbs < 9007199254740992) : F z < 18446744073709551616 := by
  rw [← floatOfInt_F z h]
  have := FloatKind.f64.format.write_lt (.number (z < 0) z.natAbs 0)
  exact this
theorem wide_F {p q x y : Int} (hp : p.natAbs < 9007199254740992) (hq : q.natAbs < 9007199254740992) (hx : x.natAbs < 9007199254740992) (hy : y.natAbs < 9007199254740992) : Wide (F p) (F q) (F x) (F y) := ⟨F_lt p hp, F_lt q hq, F_lt x hx, F_lt y hy⟩
theorem tv_abs {k : Nat} (hk : k < 4) : (tvx k).natAbs ≤ 1 ∧ (tvy k).natAbs ≤ 1 := by
  rcases tv_cases hk with ⟨e, e'⟩ | ⟨e, e'⟩ | ⟨e, e'⟩ | ⟨e, e'⟩ <;> rw [e, e'] <;> decide

/-- A map in its one form: it may be, if its Move is near enough. -/
theorem valid_made {k : Nat} (hk : k < 4) (f : Bool) {x y : Int} (hx : x.natAbs ≤ 4398046511104) (hy : y.natAbs ≤ 4398046511104) (w : World) :
    Calls Try.prog 30 #[isoV (F (tvx k)) (F (tvy k)) f (F x) (F y)] w fun e w' => e = .returned (.bool (nearB x y)) ∧ Below w.heap.size w w' := by
  by_cases h : Near x y
  · have hb : x.natAbs ≤ 1099511627776 ∧ y.natAbs ≤ 1099511627776 := by unfold Near at h; omega
    rw [nearB_yes h]
    exact valid_yes f (⟨isTurn_F hk, fit_F' hb.1, fit_F' hb.2⟩ : IsMap _ _ _ _ k x y) w
  · have hw : Wide (F (tvx k)) (F (tvy k)) (F x) (F y) := by
      have := tv_abs hk
      exact wide_F (by omega) (by omega) (by omega) (by omega)
    have hn : ¬ ∃ k' x' y', IsMap (F (tvx k)) (F (tvy k)) (F x) (F y) k' x' y' := by
      rintro ⟨k', x', y', _, h1, h2⟩
      have e1 : x = x' := by
        have := conv_int (isInt_F x (by omega)) hx
        rw [fit_conv h1] at this
        exact (Option.some.inj this).symm
      have e2 : y = y' := by
        have := conv_int (isInt_F y (by omega)) hy
        rw [fit_conv h2] at this
        exact (Option.some.inj this).symm
      have b1 := h1.2
      have b2 := h2.2
      apply h
      unfold Near
      omega
    rw [nearB_no h]
    exact valid_no f hw hn w

/-- The answer of Then: the map, or ErrFar. -/
def farV (t : Bool) (v : Value) : Value := if t then .tuple #[v, .int .i64 0] else .tuple #[isoZero, .int .i64 5]

theorem below_step {w2 W w3 : World} (h : Below w2.heap.size w2 W) (hb : Below W.heap.size W w3) : Below w2.heap.size w2 w3 := below_then h hb h.size
theorem below_alloc' {w2 W : World} (h : Below w2.heap.size w2 W) (o : Obj) : Below w2.heap.size w2 (W.alloc o) := h.alloc h.size o
theorem below_set3' {w w2 : World} {u v x : Value} (h : Below w.heap.size w w2) : Below w.heap.size w (((w2.setCell ⟨w.heap.size + 1 + 1, 0, none⟩ u).setCell ⟨w.heap.size + 1 + 1, 1, none⟩ v).setCell ⟨w.heap.size + 1 + 1, 2, none⟩ x) :=
  ((h.setCell (by simp; omega) _).setCell (by simp; omega) _).setCell (by simp; omega) _
theorem then_keep {w2 w' : World} {n : Nat} {a b c a' b' c' : Value} (N : Nine w2 n a b c a' b' c') (h : Below w2.heap.size w2 w') :
    w'.cell? ⟨n, 0, none⟩ = some a ∧ w'.cell? ⟨n, 1, none⟩ = some b ∧ w'.cell? ⟨n, 2, none⟩ = some c ∧ w'.cell? ⟨n + 1, 0, none⟩ = some a' ∧ w'.cell? ⟨n + 1, 1, none⟩ = some b' ∧ w'.cell? ⟨n + 1, 2, none⟩ = some c' ∧ Below w2.heap.size w2 w' :=
  ⟨cell_kept h N.s1, cell_kept h N.s2, cell_kept h N.s3, cell_kept h N.s4, cell_kept h N.s5, cell_kept h N.s6, h⟩

set_option maxHeartbeats 4000000 in
theorem then_dir {a b c d a' b' c' d' k l : Nat} {x y x' y' : Int} (f : Bool) (h : IsMap a b c d k x y) (h' : IsMap a' b' c' d' l x' y') (w : World) :
    Calls Try.prog 36 #[isoV a b f c d, isoV a' b' false c' d'] w fun e w' => e = .returned (farV (nearB (dox l false x' x y) (doy l false y' x y)) (isoF (thenK k l false) (f != false) (dox l false x' x y) (doy l false y' x y))) ∧ Below w.heap.size w w' := by
  have K10 := fun W => valid_yes f h W
  have K1 := Lib.hid K10
  clear K10
  have K20 := fun W => valid_yes false h' W
  have K2 := Lib.hid K20
  clear K20
  obtain ⟨t1, t2⟩ := fl_tv h.turn.1 h'.turn.1 false
  obtain ⟨re, im, e1, g1, g2⟩ := cmul_int h'.turn h.turn.2.1 h.turn.2.2 (by have := tv_abs h.turn.1; omega) (by have := tv_abs h.turn.1; omega)
  have h1 : IsInt re (tvx (thenK k l false)) := by rw [← t1]; exact g1
  have h2 : IsInt im (tvy (thenK k l false)) := by rw [← t2]; exact g2
  have m1 := fun W => run_complex_mul (P := Try.prog) W 36 a' b' a b re im e1
  have K30 := fun W => does_int false h'.turn h'.x.1 h'.y.1 h.x.1 h.y.1 (by have := h'.x.2; omega) (by have := h'.y.2; omega) (by have := h.x.2; omega) (by have := h.y.2; omega) W
  have K3 := Lib.hid K30
  clear K30
  obtain ⟨b1, b2⟩ := dox_bound (k := l) h'.turn.1 false (x := x') (y := y') (u := x) (v := y) h'.x.2 h'.y.2 (by have h5 := h.x.2; have h6 := h.y.2; unfold Near; omega)
  have K50 := fun F' W => valid_made (thenK_lt k l false) F' b1 b2 W
  have K5 := Lib.hid K50
  clear K50
  clear h h' e1 t1 t2 b1 b2 g1 g2
  unfold isoF
  generalize dox l false x' x y = X at *
  generalize doy l false y' x y = Y at *
  generalize thenK k l false = T at *
  generalize nearB X Y = t at *
  go_enter Try.func36, Try.ntmps36
  go_wp2_with fail
  refine (K1.out _).mono ?_
  rintro e w1 ⟨rfl, hb⟩
  obtain ⟨hc1, hf1⟩ := bcell hb
  have hs1 : w.heap.size ≤ w1.heap.size := by have := hb.size; (try simp at this); omega
  have hz1_0 : w.heap.size < w1.heap.size := by have := hb.size; (try simp at this); omega
  have hz1_1 : w.heap.size + 1 < w1.heap.size := by have := hb.size; (try simp at this); omega
  have hz1_2 : w.heap.size + 1 + 1 < w1.heap.size := by have := hb.size; (try simp at this); omega
  have hB1 := Lib.hid (below_then (B := w.heap.size) (w := w) (by repeat (first | exact Below.refl _ _ | refine Below.alloc ?_ (by first | omega | (simp; done) | (simp; omega)) _ | refine Below.setCell ?_ (by first | omega | (simp; done) | (simp; omega)) _ | refine Below.drew ?_)) hb (by first | omega | (simp; done) | (simp; omega)))
  clear hb
  go_wp2_with fail
  refine (K2.out _).mono ?_
  rintro e w2 ⟨rfl, hb⟩
  obtain ⟨hc2, hf2⟩ := bcell hb
  have hs2 : w.heap.size ≤ w2.heap.size := by have := hb.size; (try simp at this); omega
  have hz2_0 : w.heap.size < w2.heap.size := by have := hb.size; (try simp at this); omega
  have hz2_1 : w.heap.size + 1 < w2.heap.size := by have := hb.size; (try simp at this); omega
  have hz2_2 : w.heap.size + 1 + 1 < w2.heap.size := by have := hb.size; (try simp at this); omega
  have hB2 := Lib.hid (below_then (B := w.heap.size) (w := w) (by repeat (first | exact Below.refl _ _ | exact hB1.out | refine Below.alloc ?_ (by first | omega | (simp; done) | (simp; omega)) _ | refine Below.setCell ?_ (by first | omega | (simp; done) | (simp; omega)) _ | refine Below.drew ?_)) hb (by first | omega | (simp; done) | (simp; omega)))
  clear hb
  go_wp2_with fail
  have N2 : Nine w2 w.heap.size (.complex .f64 a b) (.bool f) (.complex .f64 c d) (.complex .f64 a' b') (.bool false) (.complex .f64 c' d') :=
    ⟨by go_simp, by go_simp, by go_simp, by go_simp, by go_simp, by go_simp, by go_simp, by go_simp, by go_simp, fun o => by go_simp⟩
  clear hc1 hc2 hf1 hf2
  go_region_held3 (fun w' => w'.cell? ⟨w.heap.size, 0, none⟩ = some (.complex .f64 a b) ∧ w'.cell? ⟨w.heap.size, 1, none⟩ = some (.bool f) ∧ w'.cell? ⟨w.heap.size, 2, none⟩ = some (.complex .f64 c d) ∧
      w'.cell? ⟨w.heap.size + 1, 0, none⟩ = some (.complex .f64 a' b') ∧ w'.cell? ⟨w.heap.size + 1, 1, none⟩ = some (.bool false) ∧ w'.cell? ⟨w.heap.size + 1, 2, none⟩ = some (.complex .f64 c' d') ∧ Below w2.heap.size w2 w')
    (((try go_split_ands); refine then_keep N2 ?_; first | exact (Below.refl _ _).drew | assumption | exact below_alloc' (by assumption) _ | (refine Below.setCell (Below.setCell (Below.setCell (by assumption) ?_ _) ?_ _) ?_ _ <;> first | exact Nat.le_refl _ | assumption | (simp; done) | (simp; omega))))
    (first | (go_at_call 58; refine (K3.out _).mono ?_; rintro e w3 ⟨r, i, rfl, hr, hi, hb⟩; (try go_split_ands); have q3 := below_step (w2 := w2) (by assumption) hb; have G3 := q3.size; have hq := bcell hb; have hc3 := hq.1; have hf3 := hq.2; clear hq; (try (have L3 : w2.heap.size < w3.heap.size := by have := hb.size; (try simp at this); omega))) | (go_at_call 62; have T1 := made_int f h1 h2 hr hi; refine (T1 _).mono ?_; clear T1; rintro e w4 ⟨rfl, hb⟩; (try go_split_ands); have q4 := below_step (w2 := w2) (by assumption) hb; have G4 := q4.size; have hq := bcell hb; have hc4 := hq.1; have hf4 := hq.2; clear hq; (try (have L4 : w2.heap.size < w4.heap.size := by have := hb.size; (try simp at this); omega)); (try (have L5 : w3.heap.size < w4.heap.size := by have := hb.size; (try simp at this); omega))))
  · have hBw : ∀ {W : World}, Below w2.heap.size w2 W → Below w.heap.size w W := fun k => hB2.out.trans (k.mono (by omega))
    go_wp2_with fail
    refine (K5.out _ _).mono ?_
    rintro e w5 ⟨rfl, hb⟩
    (try go_split_ands)
    have q5 := below_step (w2 := w2) (by assumption) hb
    have hB5 := Lib.hid (hBw q5)
    clear hBw
    have hc5 := (bcell hb).1
    have k0 : w5.cell? ⟨w4.heap.size, 0, none⟩ = some (.complex .f64 (F (tvx T)) (F (tvy T))) := (hc5 _ _ (by simp)).trans (by go_simp)
    have k1 : w5.cell? ⟨w4.heap.size, 1, none⟩ = some (.bool f) := (hc5 _ _ (by simp)).trans (by go_simp)
    have k2 : w5.cell? ⟨w4.heap.size, 2, none⟩ = some (.complex .f64 (F X) (F Y)) := (hc5 _ _ (by simp)).trans (by go_simp)
    have r7 := cell_kept q5 N2.s7
    have r8 := cell_kept q5 N2.s8
    have r9 := cell_kept q5 N2.s9
    have r10 := froz_kept q5 N2.s7 N2.s10
    clear hc5 hc4 hf4 hc3 hf3 q5 q4 q3 hb N2
    cases t
    · go_wp2
      exact bodyPost_ret (v := .tuple #[isoZero, .int .i64 5]) (by simp [results, Try.results36, go_sem, isoZero, r7, r8, r9]) rfl ⟨rfl, below_set3' hB5.out⟩
    · go_wp2
      exact bodyPost_ret (v := .tuple #[isoV (F (tvx T)) (F (tvy T)) f (F X) (F Y), .int .i64 0]) (by simp [results, Try.results36, go_sem, r7, r8, r9]) rfl ⟨by simp [farV], below_set3' hB5.out⟩
  · have hBw : ∀ {W : World}, Below w2.heap.size w2 W → Below w.heap.size w W := fun k => hB2.out.trans (k.mono (by omega))
    go_wp2_with fail
    refine (K5.out _ _).mono ?_
    rintro e w5 ⟨rfl, hb⟩
    (try go_split_ands)
    have q5 := below_step (w2 := w2) (by assumption) hb
    have hB5 := Lib.hid (hBw q5)
    clear hBw
    have hc5 := (bcell hb).1
    have k0 : w5.cell? ⟨w3.heap.size, 0, none⟩ = some (.complex .f64 (F (tvx T)) (F (tvy T))) := (hc5 _ _ (by simp; omega)).trans (by go_simp)
    have k1 : w5.cell? ⟨w3.heap.size, 1, none⟩ = some (.bool f) := (hc5 _ _ (by simp; omega)).trans (by go_simp)
    have k2 : w5.cell? ⟨w3.heap.size, 2, none⟩ = some (.complex .f64 (F X) (F Y)) := (hc5 _ _ (by simp; omega)).trans (by go_simp)
    have r7 := cell_kept q5 N2.s7
    have r8 := cell_kept q5 N2.s8
    have r9 := cell_kept q5 N2.s9
    have r10 := froz_kept q5 N2.s7 N2.s10
    clear hc5 hc4 hf4 hc3 hf3 q5 q4 q3 hb N2
    cases t
    · go_wp2
      exact bodyPost_ret (v := .tuple #[isoZero, .int .i64 5]) (by simp [results, Try.results36, go_sem, isoZero, r7, r8, r9]) rfl ⟨rfl, below_set3' hB5.out⟩
    · go_wp2
      exact bodyPost_ret (v := .tuple #[isoV (F (tvx T)) (F (tvy T)) f (F X) (F Y), .int .i64 0]) (by simp [results, Try.results36, go_sem, r7, r8, r9]) rfl ⟨by simp [farV], below_set3' hB5.out⟩
  · have hBw : ∀ {W : World}, Below w2.heap.size w2 W → Below w.heap.size w W := fun k => hB2.out.trans (k.mono (by omega))
    go_wp2_with fail
    refine (K5.out _ _).mono ?_
    rintro e w5 ⟨rfl, hb⟩
    (try go_split_ands)
    have q5 := below_step (w2 := w2) (by assumption) hb
    have hB5 := Lib.hid (hBw q5)
    clear hBw
    have hc5 := (bcell hb).1
    have k0 : w5.cell? ⟨w2.heap.size, 0, none⟩ = some (.complex .f64 (F (tvx T)) (F (tvy T))) := (hc5 _ _ (by simp; omega)).trans (by go_simp)
    have k1 : w5.cell? ⟨w2.heap.size, 1, none⟩ = some (.bool f) := (hc5 _ _ (by simp; omega)).trans (by go_simp)
    have k2 : w5.cell? ⟨w2.heap.size, 2, none⟩ = some (.complex .f64 (F X) (F Y)) := (hc5 _ _ (by simp; omega)).trans (by go_simp)
    have r7 := cell_kept q5 N2.s7
    have r8 := cell_kept q5 N2.s8
    have r9 := cell_kept q5 N2.s9
    have r10 := froz_kept q5 N2.s7 N2.s10
    clear hc5 hc4 hf4 hc3 hf3 q5 q4 q3 hb N2
    cases t
    · go_wp2
      exact bodyPost_ret (v := .tuple #[isoZero, .int .i64 5]) (by simp [results, Try.results36, go_sem, isoZero, r7, r8, r9]) rfl ⟨rfl, below_set3' hB5.out⟩
    · go_wp2
      exact bodyPost_ret (v := .tuple #[isoV (F (tvx T)) (F (tvy T)) f (F X) (F Y), .int .i64 0]) (by simp [results, Try.results36, go_sem, r7, r8, r9]) rfl ⟨by simp [farV], below_set3' hB5.out⟩

set_option maxHeartbeats 4000000 in
theorem then_flip {a b c d a' b' c' d' k l : Nat} {x y x' y' : Int} (f : Bool) (h : IsMap a b c d k x y) (h' : IsMap a' b' c' d' l x' y') (w : World) :
    Calls Try.prog 36 #[isoV a b f c d, isoV a' b' true c' d'] w fun e w' => e = .returned (farV (nearB (dox l true x' x y) (doy l true y' x y)) (isoF (thenK k l true) (f != true) (dox l true x' x y) (doy l true y' x y))) ∧ Below w.heap.size w w' := by
  have K10 := fun W => valid_yes f h W
  have K1 := Lib.hid K10
  clear K10
  have K20 := fun W => valid_yes true h' W
  have K2 := Lib.hid K20
  clear K20
  obtain ⟨t1, t2⟩ := fl_tv h.turn.1 h'.turn.1 true
  obtain ⟨re, im, e1, g1, g2⟩ := cmul_int h'.turn h.turn.2.1 (neg_int h.turn.2.2) (by have := tv_abs h.turn.1; omega) (by have := tv_abs h.turn.1; omega)
  have h1 : IsInt re (tvx (thenK k l true)) := by rw [← t1]; exact g1
  have h2 : IsInt im (tvy (thenK k l true)) := by rw [← t2]; exact g2
  have m1 := fun W => run_complex_mul (P := Try.prog) W 36 a' b' a (Op.negFloat .f64 b) re im e1
  have K30 := fun W => does_int true h'.turn h'.x.1 h'.y.1 h.x.1 h.y.1 (by have := h'.x.2; omega) (by have := h'.y.2; omega) (by have := h.x.2; omega) (by have := h.y.2; omega) W
  have K3 := Lib.hid K30
  clear K30
  obtain ⟨b1, b2⟩ := dox_bound (k := l) h'.turn.1 true (x := x') (y := y') (u := x) (v := y) h'.x.2 h'.y.2 (by have h5 := h.x.2; have h6 := h.y.2; unfold Near; omega)
  have K50 := fun F' W => valid_made (thenK_lt k l true) F' b1 b2 W
  have K5 := Lib.hid K50
  clear K50
  clear h h' e1 t1 t2 b1 b2 g1 g2
  unfold isoF
  generalize dox l true x' x y = X at *
  generalize doy l true y' x y = Y at *
  generalize thenK k l true = T at *
  generalize nearB X Y = t at *
  go_enter Try.func36, Try.ntmps36
  go_wp2_with fail
  refine (K1.out _).mono ?_
  rintro e w1 ⟨rfl, hb⟩
  obtain ⟨hc1, hf1⟩ := bcell hb
  have hs1 : w.heap.size ≤ w1.heap.size := by have := hb.size; (try simp at this); omega
  have hz1_0 : w.heap.size < w1.heap.size := by have := hb.size; (try simp at this); omega
  have hz1_1 : w.heap.size + 1 < w1.heap.size := by have := hb.size; (try simp at this); omega
  have hz1_2 : w.heap.size + 1 + 1 < w1.heap.size := by have := hb.size; (try simp at this); omega
  have hB1 := Lib.hid (below_then (B := w.heap.size) (w := w) (by repeat (first | exact Below.refl _ _ | refine Below.alloc ?_ (by first | omega | (simp; done) | (simp; omega)) _ | refine Below.setCell ?_ (by first | omega | (simp; done) | (simp; omega)) _ | refine Below.drew ?_)) hb (by first | omega | (simp; done) | (simp; omega)))
  clear hb
  go_wp2_with fail
  refine (K2.out _).mono ?_
  rintro e w2 ⟨rfl, hb⟩
  obtain ⟨hc2, hf2⟩ := bcell hb
  have hs2 : w.heap.size ≤ w2.heap.size := by have := hb.size; (try simp at this); omega
  have hz2_0 : w.heap.size < w2.heap.size := by have := hb.size; (try simp at this); omega
  have hz2_1 : w.heap.size + 1 < w2.heap.size := by have := hb.size; (try simp at this); omega
  have hz2_2 : w.heap.size + 1 + 1 < w2.heap.size := by have := hb.size; (try simp at this); omega
  have hB2 := Lib.hid (below_then (B := w.heap.size) (w := w) (by repeat (first | exact Below.refl _ _ | exact hB1.out | refine Below.alloc ?_ (by first | omega | (simp; done) | (simp; omega)) _ | refine Below.setCell ?_ (by first | omega | (simp; done) | (simp; omega)) _ | refine Below.drew ?_)) hb (by first | omega | (simp; done) | (simp; omega)))
  clear hb
  go_wp2_with fail
  refine (conj_any _ _ _).mono ?_
  rintro e w0 ⟨rfl, rfl⟩
  go_wp2_with fail
  have N2 : Nine w2 w.heap.size (.complex .f64 a b) (.bool f) (.complex .f64 c d) (.complex .f64 a' b') (.bool true) (.complex .f64 c' d') :=
    ⟨by go_simp, by go_simp, by go_simp, by go_simp, by go_simp, by go_simp, by go_simp, by go_simp, by go_simp, fun o => by go_simp⟩
  clear hc1 hc2 hf1 hf2
  go_region_held3 (fun w' => w'.cell? ⟨w.heap.size, 0, none⟩ = some (.complex .f64 a b) ∧ w'.cell? ⟨w.heap.size, 1, none⟩ = some (.bool f) ∧ w'.cell? ⟨w.heap.size, 2, none⟩ = some (.complex .f64 c d) ∧
      w'.cell? ⟨w.heap.size + 1, 0, none⟩ = some (.complex .f64 a' b') ∧ w'.cell? ⟨w.heap.size + 1, 1, none⟩ = some (.bool true) ∧ w'.cell? ⟨w.heap.size + 1, 2, none⟩ = some (.complex .f64 c' d') ∧ Below w2.heap.size w2 w')
    (((try go_split_ands); refine then_keep N2 ?_; first | exact (Below.refl _ _).drew | assumption | exact below_alloc' (by assumption) _ | (refine Below.setCell (Below.setCell (Below.setCell (by assumption) ?_ _) ?_ _) ?_ _ <;> first | exact Nat.le_refl _ | assumption | (simp; done) | (simp; omega))))
    (first | (go_at_call 58; refine (K3.out _).mono ?_; rintro e w3 ⟨r, i, rfl, hr, hi, hb⟩; (try go_split_ands); have q3 := below_step (w2 := w2) (by assumption) hb; have G3 := q3.size; have hq := bcell hb; have hc3 := hq.1; have hf3 := hq.2; clear hq; (try (have L3 : w2.heap.size < w3.heap.size := by have := hb.size; (try simp at this); omega))) | (go_at_call 62; have T1 := made_int (!f) h1 h2 hr hi; refine (T1 _).mono ?_; clear T1; rintro e w4 ⟨rfl, hb⟩; (try go_split_ands); have q4 := below_step (w2 := w2) (by assumption) hb; have G4 := q4.size; have hq := bcell hb; have hc4 := hq.1; have hf4 := hq.2; clear hq; (try (have L4 : w2.heap.size < w4.heap.size := by have := hb.size; (try simp at this); omega)); (try (have L5 : w3.heap.size < w4.heap.size := by have := hb.size; (try simp at this); omega))))
  · have hBw : ∀ {W : World}, Below w2.heap.size w2 W → Below w.heap.size w W := fun k => hB2.out.trans (k.mono (by omega))
    go_wp2_with fail
    refine (K5.out _ _).mono ?_
    rintro e w5 ⟨rfl, hb⟩
    (try go_split_ands)
    have q5 := below_step (w2 := w2) (by assumption) hb
    have hB5 := Lib.hid (hBw q5)
    clear hBw
    have hc5 := (bcell hb).1
    have k0 : w5.cell? ⟨w4.heap.size, 0, none⟩ = some (.complex .f64 (F (tvx T)) (F (tvy T))) := (hc5 _ _ (by simp)).trans (by go_simp)
    have k1 : w5.cell? ⟨w4.heap.size, 1, none⟩ = some (.bool (!f)) := (hc5 _ _ (by simp)).trans (by go_simp)
    have k2 : w5.cell? ⟨w4.heap.size, 2, none⟩ = some (.complex .f64 (F X) (F Y)) := (hc5 _ _ (by simp)).trans (by go_simp)
    have r7 := cell_kept q5 N2.s7
    have r8 := cell_kept q5 N2.s8
    have r9 := cell_kept q5 N2.s9
    have r10 := froz_kept q5 N2.s7 N2.s10
    clear hc5 hc4 hf4 hc3 hf3 q5 q4 q3 hb N2
    cases t
    · go_wp2
      exact bodyPost_ret (v := .tuple #[isoZero, .int .i64 5]) (by simp [results, Try.results36, go_sem, isoZero, r7, r8, r9]) rfl ⟨rfl, below_set3' hB5.out⟩
    · go_wp2
      exact bodyPost_ret (v := .tuple #[isoV (F (tvx T)) (F (tvy T)) (!f) (F X) (F Y), .int .i64 0]) (by simp [results, Try.results36, go_sem, r7, r8, r9]) rfl ⟨by simp [farV], below_set3' hB5.out⟩
  · have hBw : ∀ {W : World}, Below w2.heap.size w2 W → Below w.heap.size w W := fun k => hB2.out.trans (k.mono (by omega))
    go_wp2_with fail
    refine (K5.out _ _).mono ?_
    rintro e w5 ⟨rfl, hb⟩
    (try go_split_ands)
    have q5 := below_step (w2 := w2) (by assumption) hb
    have hB5 := Lib.hid (hBw q5)
    clear hBw
    have hc5 := (bcell hb).1
    have k0 : w5.cell? ⟨w3.heap.size, 0, none⟩ = some (.complex .f64 (F (tvx T)) (F (tvy T))) := (hc5 _ _ (by simp; omega)).trans (by go_simp)
    have k1 : w5.cell? ⟨w3.heap.size, 1, none⟩ = some (.bool (!f)) := (hc5 _ _ (by simp; omega)).trans (by go_simp)
    have k2 : w5.cell? ⟨w3.heap.size, 2, none⟩ = some (.complex .f64 (F X) (F Y)) := (hc5 _ _ (by simp; omega)).trans (by go_simp)
    have r7 := cell_kept q5 N2.s7
    have r8 := cell_kept q5 N2.s8
    have r9 := cell_kept q5 N2.s9
    have r10 := froz_kept q5 N2.s7 N2.s10
    clear hc5 hc4 hf4 hc3 hf3 q5 q4 q3 hb N2
    cases t
    · go_wp2
      exact bodyPost_ret (v := .tuple #[isoZero, .int .i64 5]) (by simp [results, Try.results36, go_sem, isoZero, r7, r8, r9]) rfl ⟨rfl, below_set3' hB5.out⟩
    · go_wp2
      exact bodyPost_ret (v := .tuple #[isoV (F (tvx T)) (F (tvy T)) (!f) (F X) (F Y), .int .i64 0]) (by simp [results, Try.results36, go_sem, r7, r8, r9]) rfl ⟨by simp [farV], below_set3' hB5.out⟩
  · have hBw : ∀ {W : World}, Below w2.heap.size w2 W → Below w.heap.size w W := fun k => hB2.out.trans (k.mono (by omega))
    go_wp2_with fail
    refine (K5.out _ _).mono ?_
    rintro e w5 ⟨rfl, hb⟩
    (try go_split_ands)
    have q5 := below_step (w2 := w2) (by assumption) hb
    have hB5 := Lib.hid (hBw q5)
    clear hBw
    have hc5 := (bcell hb).1
    have k0 : w5.cell? ⟨w2.heap.size, 0, none⟩ = some (.complex .f64 (F (tvx T)) (F (tvy T))) := (hc5 _ _ (by simp; omega)).trans (by go_simp)
    have k1 : w5.cell? ⟨w2.heap.size, 1, none⟩ = some (.bool (!f)) := (hc5 _ _ (by simp; omega)).trans (by go_simp)
    have k2 : w5.cell? ⟨w2.heap.size, 2, none⟩ = some (.complex .f64 (F X) (F Y)) := (hc5 _ _ (by simp; omega)).trans (by go_simp)
    have r7 := cell_kept q5 N2.s7
    have r8 := cell_kept q5 N2.s8
    have r9 := cell_kept q5 N2.s9
    have r10 := froz_kept q5 N2.s7 N2.s10
    clear hc5 hc4 hf4 hc3 hf3 q5 q4 q3 hb N2
    cases t
    · go_wp2
      exact bodyPost_ret (v := .tuple #[isoZero, .int .i64 5]) (by simp [results, Try.results36, go_sem, isoZero, r7, r8, r9]) rfl ⟨rfl, below_set3' hB5.out⟩
    · go_wp2
      exact bodyPost_ret (v := .tuple #[isoV (F (tvx T)) (F (tvy T)) (!f) (F X) (F Y), .int .i64 0]) (by simp [results, Try.results36, go_sem, r7, r8, r9]) rfl ⟨by simp [farV], below_set3' hB5.out⟩

end Go.Proofs.Ytjomgjlicfoehaa
