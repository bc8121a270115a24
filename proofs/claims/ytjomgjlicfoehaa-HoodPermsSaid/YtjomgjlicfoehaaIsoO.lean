import Derived.Test.YtjomgjlicfoehaaIsoN
import Derived.Deep.RegionHeld3
namespace Go.Proofs.Ytjomgjlicfoehaa
open Go.RowKit Flt
attribute [local go_sem] run_store_float run_store_complex unary_neg_float unary_neg_complex
set_option linter.unusedSimpArgs false
set_option linter.unusedVariables false

/-! ### Same -/
theorem turn_eq {a b a' b' k l : Nat} (h : IsTurn a b k) (h' : IsTurn a' b' l) : ((FloatKind.f64.format.order a a' == some .eq) && (FloatKind.f64.format.order b b' == some .eq)) = decide (k = l) := by
  obtain ⟨hk, ha, hb⟩ := h
  obtain ⟨hl, ha', hb'⟩ := h'
  rw [eq_int ha ha', eq_int hb hb']
  have hk' : k = 0 ∨ k = 1 ∨ k = 2 ∨ k = 3 := by omega
  have hl' : l = 0 ∨ l = 1 ∨ l = 2 ∨ l = 3 := by omega
  rcases hk' with rfl | rfl | rfl | rfl <;> rcases hl' with rfl | rfl | rfl | rfl <;> decide
theorem move_eq {a b a' b' : Nat} {x y x' y' : Int} (h1 : Fit a x) (h2 : Fit b y) (h3 : Fit a' x') (h4 : Fit b' y') : ((FloatKind.f64.format.order a a' == some .eq) && (FloatKind.f64.format.order b b' == some .eq)) = (decide (x = x') && decide (y = y')) := by
  rw [eq_int h1.1 h3.1, eq_int h2.1 h4.1]
def sameB (k : Nat) (f : Bool) (x y : Int) (l : Nat) (g : Bool) (x' y' : Int) : Bool := decide (k = l) && (f == g) && (decide (x = x') && decide (y = y'))

set_option maxHeartbeats 2000000 in
theorem same_yes {a b c d a' b' c' d' k l : Nat} {x y x' y' : Int} (f g : Bool) (h : IsMap a b c d k x y) (h' : IsMap a' b' c' d' l x' y') (w : World) :
    Calls Try.prog 38 #[isoV a b f c d, isoV a' b' g c' d'] w fun e w' => e = .returned (.tuple #[.bool (sameB k f x y l g x' y'), .int .i64 0]) ∧ Below w.heap.size w w' := by
  have K10 := fun W => valid_yes f h W
  have K1 := Lib.hid K10
  clear K10
  have K20 := fun W => valid_yes g h' W
  have K2 := Lib.hid K20
  clear K20
  have e1 := turn_eq h.turn h'.turn
  have e2 := move_eq h.x h.y h'.x h'.y
  unfold sameB
  clear h h'
  generalize decide (k = l) = t1 at *
  generalize (decide (x = x') && decide (y = y')) = t3 at *
  cases t1
  · go_enter Try.func38, Try.ntmps38
    go_wp2_with fail
    refine (K1.out _).mono ?_
    rintro e w1 ⟨rfl, hb⟩
    obtain ⟨hc1, hf1⟩ := bcell hb
    have hs1 : w.heap.size ≤ w1.heap.size := by have := hb.size; (try simp at this); omega
    have hz1_0 : w.heap.size < w1.heap.size := by have := hb.size; (try simp at this); omega
    have hz1_1 : w.heap.size + 1 < w1.heap.size := by have := hb.size; (try simp at this); omega
    have hB1 := Lib.hid (below_then (B := w.heap.size) (w := w) (by repeat (first | exact Below.refl _ _ | refine Below.alloc ?_ (by first | omega | (simp; done) | (simp; omega)) _ | refine Below.setCell ?_ (by first | omega | (simp; done) | (simp; omega)) _ | refine Below.drew ?_)) hb (by first | omega | (simp; done) | (simp; omega)))
    clear hb
    go_wp2_with fail
    refine (K2.out _).mono ?_
    rintro e w2 ⟨rfl, hb⟩
    obtain ⟨hc2, hf2⟩ := bcell hb
    have hs2 : w.heap.size ≤ w2.heap.size := by have := hb.size; (try simp at this); omega
    have hz2_0 : w.heap.size < w2.heap.size := by have := hb.size; (try simp at this); omega
    have hz2_1 : w.heap.size + 1 < w2.heap.size := by have := hb.size; (try simp at this); omega
    have hB2 := Lib.hid (below_then (B := w.heap.size) (w := w) (by repeat (first | exact Below.refl _ _ | exact hB1.out | refine Below.alloc ?_ (by first | omega | (simp; done) | (simp; omega)) _ | refine Below.setCell ?_ (by first | omega | (simp; done) | (simp; omega)) _ | refine Below.drew ?_)) hb (by first | omega | (simp; done) | (simp; omega)))
    clear hb
    go_wp2
    go_ret2
    exact ⟨rfl, by repeat (first | exact Below.refl _ _ | exact hB2.out | exact hB1.out | refine Below.alloc ?_ (by first | omega | (simp; done) | (simp; omega)) _ | refine Below.setCell ?_ (by first | omega | (simp; done) | (simp; omega)) _ | refine Below.drew ?_)⟩
  · cases hfg : (f == g) with
    | false =>
      go_enter Try.func38, Try.ntmps38
      go_wp2_with fail
      refine (K1.out _).mono ?_
      rintro e w1 ⟨rfl, hb⟩
      obtain ⟨hc1, hf1⟩ := bcell hb
      have hs1 : w.heap.size ≤ w1.heap.size := by have := hb.size; (try simp at this); omega
      have hz1_0 : w.heap.size < w1.heap.size := by have := hb.size; (try simp at this); omega
      have hz1_1 : w.heap.size + 1 < w1.heap.size := by have := hb.size; (try simp at this); omega
      have hB1 := Lib.hid (below_then (B := w.heap.size) (w := w) (by repeat (first | exact Below.refl _ _ | refine Below.alloc ?_ (by first | omega | (simp; done) | (simp; omega)) _ | refine Below.setCell ?_ (by first | omega | (simp; done) | (simp; omega)) _ | refine Below.drew ?_)) hb (by first | omega | (simp; done) | (simp; omega)))
      clear hb
      go_wp2_with fail
      refine (K2.out _).mono ?_
      rintro e w2 ⟨rfl, hb⟩
      obtain ⟨hc2, hf2⟩ := bcell hb
      have hs2 : w.heap.size ≤ w2.heap.size := by have := hb.size; (try simp at this); omega
      have hz2_0 : w.heap.size < w2.heap.size := by have := hb.size; (try simp at this); omega
      have hz2_1 : w.heap.size + 1 < w2.heap.size := by have := hb.size; (try simp at this); omega
      have hB2 := Lib.hid (below_then (B := w.heap.size) (w := w) (by repeat (first | exact Below.refl _ _ | exact hB1.out | refine Below.alloc ?_ (by first | omega | (simp; done) | (simp; omega)) _ | refine Below.setCell ?_ (by first | omega | (simp; done) | (simp; omega)) _ | refine Below.drew ?_)) hb (by first | omega | (simp; done) | (simp; omega)))
      clear hb
      go_wp2
      go_ret2
      exact ⟨rfl, by repeat (first | exact Below.refl _ _ | exact hB2.out | exact hB1.out | refine Below.alloc ?_ (by first | omega | (simp; done) | (simp; omega)) _ | refine Below.setCell ?_ (by first | omega | (simp; done) | (simp; omega)) _ | refine Below.drew ?_)⟩
    | true =>
      go_enter Try.func38, Try.ntmps38
      go_wp2_with fail
      refine (K1.out _).mono ?_
      rintro e w1 ⟨rfl, hb⟩
      obtain ⟨hc1, hf1⟩ := bcell hb
      have hs1 : w.heap.size ≤ w1.heap.size := by have := hb.size; (try simp at this); omega
      have hz1_0 : w.heap.size < w1.heap.size := by have := hb.size; (try simp at this); omega
      have hz1_1 : w.heap.size + 1 < w1.heap.size := by have := hb.size; (try simp at this); omega
      have hB1 := Lib.hid (below_then (B := w.heap.size) (w := w) (by repeat (first | exact Below.refl _ _ | refine Below.alloc ?_ (by first | omega | (simp; done) | (simp; omega)) _ | refine Below.setCell ?_ (by first | omega | (simp; done) | (simp; omega)) _ | refine Below.drew ?_)) hb (by first | omega | (simp; done) | (simp; omega)))
      clear hb
      go_wp2_with fail
      refine (K2.out _).mono ?_
      rintro e w2 ⟨rfl, hb⟩
      obtain ⟨hc2, hf2⟩ := bcell hb
      have hs2 : w.heap.size ≤ w2.heap.size := by have := hb.size; (try simp at this); omega
      have hz2_0 : w.heap.size < w2.heap.size := by have := hb.size; (try simp at this); omega
      have hz2_1 : w.heap.size + 1 < w2.heap.size := by have := hb.size; (try simp at this); omega
      have hB2 := Lib.hid (below_then (B := w.heap.size) (w := w) (by repeat (first | exact Below.refl _ _ | exact hB1.out | refine Below.alloc ?_ (by first | omega | (simp; done) | (simp; omega)) _ | refine Below.setCell ?_ (by first | omega | (simp; done) | (simp; omega)) _ | refine Below.drew ?_)) hb (by first | omega | (simp; done) | (simp; omega)))
      clear hb
      go_wp2
      go_ret2
      exact ⟨rfl, by repeat (first | exact Below.refl _ _ | exact hB2.out | exact hB1.out | refine Below.alloc ?_ (by first | omega | (simp; done) | (simp; omega)) _ | refine Below.setCell ?_ (by first | omega | (simp; done) | (simp; omega)) _ | refine Below.drew ?_)⟩

set_option maxHeartbeats 1000000 in
theorem same_no1 {a b c d a' b' c' d' : Nat} (f g : Bool) (hw : Wide a b c d) (h : ¬ ∃ k x y, IsMap a b c d k x y) (w : World) :
    Calls Try.prog 38 #[isoV a b f c d, isoV a' b' g c' d'] w fun e w' => e = .returned noSame ∧ Below w.heap.size w w' := by
  have K10 := fun W => valid_no f hw h W
  have K1 := Lib.hid K10
  clear K10
  clear h hw
  go_enter Try.func38, Try.ntmps38
  go_wp2_with fail
  refine (K1.out _).mono ?_
  rintro e w1 ⟨rfl, hb⟩
  obtain ⟨hc1, hf1⟩ := bcell hb
  have hs1 : w.heap.size ≤ w1.heap.size := by have := hb.size; (try simp at this); omega
  have hz1_0 : w.heap.size < w1.heap.size := by have := hb.size; (try simp at this); omega
  have hz1_1 : w.heap.size + 1 < w1.heap.size := by have := hb.size; (try simp at this); omega
  have hB1 := Lib.hid (below_then (B := w.heap.size) (w := w) (by repeat (first | exact Below.refl _ _ | refine Below.alloc ?_ (by first | omega | (simp; done) | (simp; omega)) _ | refine Below.setCell ?_ (by first | omega | (simp; done) | (simp; omega)) _ | refine Below.drew ?_)) hb (by first | omega | (simp; done) | (simp; omega)))
  clear hb
  go_wp2
  go_ret2
  exact ⟨rfl, by repeat (first | exact Below.refl _ _ | exact hB1.out | refine Below.alloc ?_ (by first | omega | (simp; done) | (simp; omega)) _ | refine Below.setCell ?_ (by first | omega | (simp; done) | (simp; omega)) _ | refine Below.drew ?_)⟩
set_option maxHeartbeats 1000000 in
theorem same_no2 {a b c d a' b' c' d' k : Nat} {x y : Int} (f g : Bool) (h : IsMap a b c d k x y) (hw : Wide a' b' c' d') (h' : ¬ ∃ k x y, IsMap a' b' c' d' k x y) (w : World) :
    Calls Try.prog 38 #[isoV a b f c d, isoV a' b' g c' d'] w fun e w' => e = .returned noSame ∧ Below w.heap.size w w' := by
  have K10 := fun W => valid_yes f h W
  have K1 := Lib.hid K10
  clear K10
  have K20 := fun W => valid_no g hw h' W
  have K2 := Lib.hid K20
  clear K20
  clear h hw h'
  go_enter Try.func38, Try.ntmps38
  go_wp2_with fail
  refine (K1.out _).mono ?_
  rintro e w1 ⟨rfl, hb⟩
  obtain ⟨hc1, hf1⟩ := bcell hb
  have hs1 : w.heap.size ≤ w1.heap.size := by have := hb.size; (try simp at this); omega
  have hz1_0 : w.heap.size < w1.heap.size := by have := hb.size; (try simp at this); omega
  have hz1_1 : w.heap.size + 1 < w1.heap.size := by have := hb.size; (try simp at this); omega
  have hB1 := Lib.hid (below_then (B := w.heap.size) (w := w) (by repeat (first | exact Below.refl _ _ | refine Below.alloc ?_ (by first | omega | (simp; done) | (simp; omega)) _ | refine Below.setCell ?_ (by first | omega | (simp; done) | (simp; omega)) _ | refine Below.drew ?_)) hb (by first | omega | (simp; done) | (simp; omega)))
  clear hb
  go_wp2_with fail
  refine (K2.out _).mono ?_
  rintro e w2 ⟨rfl, hb⟩
  obtain ⟨hc2, hf2⟩ := bcell hb
  have hs2 : w.heap.size ≤ w2.heap.size := by have := hb.size; (try simp at this); omega
  have hz2_0 : w.heap.size < w2.heap.size := by have := hb.size; (try simp at this); omega
  have hz2_1 : w.heap.size + 1 < w2.heap.size := by have := hb.size; (try simp at this); omega
  have hB2 := Lib.hid (below_then (B := w.heap.size) (w := w) (by repeat (first | exact Below.refl _ _ | exact hB1.out | refine Below.alloc ?_ (by first | omega | (simp; done) | (simp; omega)) _ | refine Below.setCell ?_ (by first | omega | (simp; done) | (simp; omega)) _ | refine Below.drew ?_)) hb (by first | omega | (simp; done) | (simp; omega)))
  clear hb
  go_wp2
  go_ret2
  exact ⟨rfl, by repeat (first | exact Below.refl _ _ | exact hB2.out | exact hB1.out | refine Below.alloc ?_ (by first | omega | (simp; done) | (simp; omega)) _ | refine Below.setCell ?_ (by first | omega | (simp; done) | (simp; omega)) _ | refine Below.drew ?_)⟩

set_option maxHeartbeats 1000000 in
theorem rsame_no1 {a b c d a' b' c' d' : Nat} (f g : Bool) (hw : Wide a b c d) (h : ¬ ∃ k x y, IsMap a b c d k x y) (hw' : Wide a' b' c' d') (w : World) :
    Calls Try.prog 39 #[isoV a b f c d, isoV a' b' g c' d'] w fun e w' => e = .returned noSame ∧ Below w.heap.size w w' := by
  have K10 := fun W => parts_no f hw h W
  have K1 := Lib.hid K10
  clear K10
  unfold noParts at K1
  by_cases h' : ∃ k x y, IsMap a' b' c' d' k x y
  · obtain ⟨k, x, y, h'⟩ := h'
    have K20 := fun W => parts_yes g h' W
    have K2 := Lib.hid K20
    clear K20
    clear h hw h' hw'
    generalize linN k g = n at *
    go_enter Try.func39, Try.ntmps39
    go_wp2_with fail
    refine (K1.out _).mono ?_
    rintro e w1 ⟨rfl, hb⟩
    obtain ⟨hc1, hf1⟩ := bcell hb
    have hs1 : w.heap.size ≤ w1.heap.size := by have := hb.size; (try simp at this); omega
    have hz1_0 : w.heap.size < w1.heap.size := by have := hb.size; (try simp at this); omega
    have hz1_1 : w.heap.size + 1 < w1.heap.size := by have := hb.size; (try simp at this); omega
    have hB1 := Lib.hid (below_then (B := w.heap.size) (w := w) (by repeat (first | exact Below.refl _ _ | refine Below.alloc ?_ (by first | omega | (simp; done) | (simp; omega)) _ | refine Below.setCell ?_ (by first | omega | (simp; done) | (simp; omega)) _ | refine Below.drew ?_)) hb (by first | omega | (simp; done) | (simp; omega)))
    clear hb
    go_wp2_with fail
    refine (K2.out _).mono ?_
    rintro e w2 ⟨rfl, hb⟩
    obtain ⟨hc2, hf2⟩ := bcell hb
    have hs2 : w.heap.size ≤ w2.heap.size := by have := hb.size; (try simp at this); omega
    have hz2_0 : w.heap.size < w2.heap.size := by have := hb.size; (try simp at this); omega
    have hz2_1 : w.heap.size + 1 < w2.heap.size := by have := hb.size; (try simp at this); omega
    have hB2 := Lib.hid (below_then (B := w.heap.size) (w := w) (by repeat (first | exact Below.refl _ _ | exact hB1.out | refine Below.alloc ?_ (by first | omega | (simp; done) | (simp; omega)) _ | refine Below.setCell ?_ (by first | omega | (simp; done) | (simp; omega)) _ | refine Below.drew ?_)) hb (by first | omega | (simp; done) | (simp; omega)))
    clear hb
    go_wp2
    go_ret2
    exact ⟨rfl, by repeat (first | exact Below.refl _ _ | exact hB2.out | exact hB1.out | refine Below.alloc ?_ (by first | omega | (simp; done) | (simp; omega)) _ | refine Below.setCell ?_ (by first | omega | (simp; done) | (simp; omega)) _ | refine Below.drew ?_)⟩
  · have K20 := fun W => parts_no g hw' h' W
    have K2 := Lib.hid K20
    clear K20
    unfold noParts at K2
    clear h hw h' hw'
    go_enter Try.func39, Try.ntmps39
    go_wp2_with fail
    refine (K1.out _).mono ?_
    rintro e w1 ⟨rfl, hb⟩
    obtain ⟨hc1, hf1⟩ := bcell hb
    have hs1 : w.heap.size ≤ w1.heap.size := by have := hb.size; (try simp at this); omega
    have hz1_0 : w.heap.size < w1.heap.size := by have := hb.size; (try simp at this); omega
    have hz1_1 : w.heap.size + 1 < w1.heap.size := by have := hb.size; (try simp at this); omega
    have hB1 := Lib.hid (below_then (B := w.heap.size) (w := w) (by repeat (first | exact Below.refl _ _ | refine Below.alloc ?_ (by first | omega | (simp; done) | (simp; omega)) _ | refine Below.setCell ?_ (by first | omega | (simp; done) | (simp; omega)) _ | refine Below.drew ?_)) hb (by first | omega | (simp; done) | (simp; omega)))
    clear hb
    go_wp2_with fail
    refine (K2.out _).mono ?_
    rintro e w2 ⟨rfl, hb⟩
    obtain ⟨hc2, hf2⟩ := bcell hb
    have hs2 : w.heap.size ≤ w2.heap.size := by have := hb.size; (try simp at this); omega
    have hz2_0 : w.heap.size < w2.heap.size := by have := hb.size; (try simp at this); omega
    have hz2_1 : w.heap.size + 1 < w2.heap.size := by have := hb.size; (try simp at this); omega
    have hB2 := Lib.hid (below_then (B := w.heap.size) (w := w) (by repeat (first | exact Below.refl _ _ | exact hB1.out | refine Below.alloc ?_ (by first | omega | (simp; done) | (simp; omega)) _ | refine Below.setCell ?_ (by first | omega | (simp; done) | (simp; omega)) _ | refine Below.drew ?_)) hb (by first | omega | (simp; done) | (simp; omega)))
    clear hb
    go_wp2
    go_ret2
    exact ⟨rfl, by repeat (first | exact Below.refl _ _ | exact hB2.out | exact hB1.out | refine Below.alloc ?_ (by first | omega | (simp; done) | (simp; omega)) _ | refine Below.setCell ?_ (by first | omega | (simp; done) | (simp; omega)) _ | refine Below.drew ?_)⟩

set_option maxHeartbeats 1000000 in
theorem rsame_no2 {a b c d a' b' c' d' k : Nat} {x y : Int} (f g : Bool) (h : IsMap a b c d k x y) (hw' : Wide a' b' c' d') (h' : ¬ ∃ k x y, IsMap a' b' c' d' k x y) (w : World) :
    Calls Try.prog 39 #[isoV a b f c d, isoV a' b' g c' d'] w fun e w' => e = .returned noSame ∧ Below w.heap.size w w' := by
  have K10 := fun W => parts_yes f h W
  have K1 := Lib.hid K10
  clear K10
  have K20 := fun W => parts_no g hw' h' W
  have K2 := Lib.hid K20
  clear K20
  unfold noParts at K2
  clear h h' hw'
  generalize linN k f = n at *
  go_enter Try.func39, Try.ntmps39
  go_wp2_with fail
  refine (K1.out _).mono ?_
  rintro e w1 ⟨rfl, hb⟩
  obtain ⟨hc1, hf1⟩ := bcell hb
  have hs1 : w.heap.size ≤ w1.heap.size := by have := hb.size; (try simp at this); omega
  have hz1_0 : w.heap.size < w1.heap.size := by have := hb.size; (try simp at this); omega
  have hz1_1 : w.heap.size + 1 < w1.heap.size := by have := hb.size; (try simp at this); omega
  have hB1 := Lib.hid (below_then (B := w.heap.size) (w := w) (by repeat (first | exact Below.refl _ _ | refine Below.alloc ?_ (by first | omega | (simp; done) | (simp; omega)) _ | refine Below.setCell ?_ (by first | omega | (simp; done) | (simp; omega)) _ | refine Below.drew ?_)) hb (by first | omega | (simp; done) | (simp; omega)))
  clear hb
  go_wp2_with fail
  refine (K2.out _).mono ?_
  rintro e w2 ⟨rfl, hb⟩
  obtain ⟨hc2, hf2⟩ := bcell hb
  have hs2 : w.heap.size ≤ w2.heap.size := by have := hb.size; (try simp at this); omega
  have hz2_0 : w.heap.size < w2.heap.size := by have := hb.size; (try simp at this); omega
  have hz2_1 : w.heap.size + 1 < w2.heap.size := by have := hb.size; (try simp at this); omega
  have hB2 := Lib.hid (below_then (B := w.heap.size) (w := w) (by repeat (first | exact Below.refl _ _ | exact hB1.out | refine Below.alloc ?_ (by first | omega | (simp; done) | (simp; omega)) _ | refine Below.setCell ?_ (by first | omega | (simp; done) | (simp; omega)) _ | refine Below.drew ?_)) hb (by first | omega | (simp; done) | (simp; omega)))
  clear hb
  go_wp2
  go_ret2
  exact ⟨rfl, by repeat (first | exact Below.refl _ _ | exact hB2.out | exact hB1.out | refine Below.alloc ?_ (by first | omega | (simp; done) | (simp; omega)) _ | refine Below.setCell ?_ (by first | omega | (simp; done) | (simp; omega)) _ | refine Below.drew ?_)⟩

theorem lin_eq {k l : Nat} (hk : k < 4) (hl : l < 4) (f g : Bool) : (linN k f == linN l g) = (decide (k = l) && (f == g)) := by
  unfold linN
  rw [Bool.eq_iff_iff]
  cases f <;> cases g <;> simp <;> omega

set_option maxHeartbeats 2000000 in
theorem rsame_yes {a b c d a' b' c' d' k l : Nat} {x y x' y' : Int} (f g : Bool) (h : IsMap a b c d k x y) (h' : IsMap a' b' c' d' l x' y') (w : World) :
    Calls Try.prog 39 #[isoV a b f c d, isoV a' b' g c' d'] w fun e w' => e = .returned (.tuple #[.bool (sameB k f x y l g x' y'), .int .i64 0]) ∧ Below w.heap.size w w' := by
  have K10 := fun W => parts_yes f h W
  have K1 := Lib.hid K10
  clear K10
  have K20 := fun W => parts_yes g h' W
  have K2 := Lib.hid K20
  clear K20
  have e : sameB k f x y l g x' y' = ((linN k f == linN l g) && (x == x') && (y == y')) := by
    rw [lin_eq h.turn.1 h'.turn.1]
    unfold sameB
    rw [Bool.eq_iff_iff]; simp [and_assoc]
  rw [e]
  clear h h' e
  generalize linN k f = n at *
  generalize linN l g = m at *
  cases h1 : (n == m) with
  | false =>
    go_enter Try.func39, Try.ntmps39
    go_wp2_with fail
    refine (K1.out _).mono ?_
    rintro e w1 ⟨rfl, hb⟩
    obtain ⟨hc1, hf1⟩ := bcell hb
    have hs1 : w.heap.size ≤ w1.heap.size := by have := hb.size; (try simp at this); omega
    have hz1_0 : w.heap.size < w1.heap.size := by have := hb.size; (try simp at this); omega
    have hz1_1 : w.heap.size + 1 < w1.heap.size := by have := hb.size; (try simp at this); omega
    have hB1 := Lib.hid (below_then (B := w.heap.size) (w := w) (by repeat (first | exact Below.refl _ _ | refine Below.alloc ?_ (by first | omega | (simp; done) | (simp; omega)) _ | refine Below.setCell ?_ (by first | omega | (simp; done) | (simp; omega)) _ | refine Below.drew ?_)) hb (by first | omega | (simp; done) | (simp; omega)))
    clear hb
    go_wp2_with fail
    refine (K2.out _).mono ?_
    rintro e w2 ⟨rfl, hb⟩
    obtain ⟨hc2, hf2⟩ := bcell hb
    have hs2 : w.heap.size ≤ w2.heap.size := by have := hb.size; (try simp at this); omega
    have hz2_0 : w.heap.size < w2.heap.size := by have := hb.size; (try simp at this); omega
    have hz2_1 : w.heap.size + 1 < w2.heap.size := by have := hb.size; (try simp at this); omega
    have hB2 := Lib.hid (below_then (B := w.heap.size) (w := w) (by repeat (first | exact Below.refl _ _ | exact hB1.out | refine Below.alloc ?_ (by first | omega | (simp; done) | (simp; omega)) _ | refine Below.setCell ?_ (by first | omega | (simp; done) | (simp; omega)) _ | refine Below.drew ?_)) hb (by first | omega | (simp; done) | (simp; omega)))
    clear hb
    go_wp2
    go_ret2
    exact ⟨rfl, by repeat (first | exact Below.refl _ _ | exact hB2.out | exact hB1.out | refine Below.alloc ?_ (by first | omega | (simp; done) | (simp; omega)) _ | refine Below.setCell ?_ (by first | omega | (simp; done) | (simp; omega)) _ | refine Below.drew ?_)⟩
  | true =>
    cases h2 : (x == x') with
    | false =>
      go_enter Try.func39, Try.ntmps39
      go_wp2_with fail
      refine (K1.out _).mono ?_
      rintro e w1 ⟨rfl, hb⟩
      obtain ⟨hc1, hf1⟩ := bcell hb
      have hs1 : w.heap.size ≤ w1.heap.size := by have := hb.size; (try simp at this); omega
      have hz1_0 : w.heap.size < w1.heap.size := by have := hb.size; (try simp at this); omega
      have hz1_1 : w.heap.size + 1 < w1.heap.size := by have := hb.size; (try simp at this); omega
      have hB1 := Lib.hid (below_then (B := w.heap.size) (w := w) (by repeat (first | exact Below.refl _ _ | refine Below.alloc ?_ (by first | omega | (simp; done) | (simp; omega)) _ | refine Below.setCell ?_ (by first | omega | (simp; done) | (simp; omega)) _ | refine Below.drew ?_)) hb (by first | omega | (simp; done) | (simp; omega)))
      clear hb
      go_wp2_with fail
      refine (K2.out _).mono ?_
      rintro e w2 ⟨rfl, hb⟩
      obtain ⟨hc2, hf2⟩ := bcell hb
      have hs2 : w.heap.size ≤ w2.heap.size := by have := hb.size; (try simp at this); omega
      have hz2_0 : w.heap.size < w2.heap.size := by have := hb.size; (try simp at this); omega
      have hz2_1 : w.heap.size + 1 < w2.heap.size := by have := hb.size; (try simp at this); omega
      have hB2 := Lib.hid (below_then (B := w.heap.size) (w := w) (by repeat (first | exact Below.refl _ _ | exact hB1.out | refine Below.alloc ?_ (by first | omega | (simp; done) | (simp; omega)) _ | refine Below.setCell ?_ (by first | omega | (simp; done) | (simp; omega)) _ | refine Below.drew ?_)) hb (by first | omega | (simp; done) | (simp; omega)))
      clear hb
      go_wp2
      go_ret2
      exact ⟨rfl, by repeat (first | exact Below.refl _ _ | exact hB2.out | exact hB1.out | refine Below.alloc ?_ (by first | omega | (simp; done) | (simp; omega)) _ | refine Below.setCell ?_ (by first | omega | (simp; done) | (simp; omega)) _ | refine Below.drew ?_)⟩
    | true =>
      go_enter Try.func39, Try.ntmps39
      go_wp2_with fail
      refine (K1.out _).mono ?_
      rintro e w1 ⟨rfl, hb⟩
      obtain ⟨hc1, hf1⟩ := bcell hb
      have hs1 : w.heap.size ≤ w1.heap.size := by have := hb.size; (try simp at this); omega
      have hz1_0 : w.heap.size < w1.heap.size := by have := hb.size; (try simp at this); omega
      have hz1_1 : w.heap.size + 1 < w1.heap.size := by have := hb.size; (try simp at this); omega
      have hB1 := Lib.hid (below_then (B := w.heap.size) (w := w) (by repeat (first | exact Below.refl _ _ | refine Below.alloc ?_ (by first | omega | (simp; done) | (simp; omega)) _ | refine Below.setCell ?_ (by first | omega | (simp; done) | (simp; omega)) _ | refine Below.drew ?_)) hb (by first | omega | (simp; done) | (simp; omega)))
      clear hb
      go_wp2_with fail
      refine (K2.out _).mono ?_
      rintro e w2 ⟨rfl, hb⟩
      obtain ⟨hc2, hf2⟩ := bcell hb
      have hs2 : w.heap.size ≤ w2.heap.size := by have := hb.size; (try simp at this); omega
      have hz2_0 : w.heap.size < w2.heap.size := by have := hb.size; (try simp at this); omega
      have hz2_1 : w.heap.size + 1 < w2.heap.size := by have := hb.size; (try simp at this); omega
      have hB2 := Lib.hid (below_then (B := w.heap.size) (w := w) (by repeat (first | exact Below.refl _ _ | exact hB1.out | refine Below.alloc ?_ (by first | omega | (simp; done) | (simp; omega)) _ | refine Below.setCell ?_ (by first | omega | (simp; done) | (simp; omega)) _ | refine Below.drew ?_)) hb (by first | omega | (simp; done) | (simp; omega)))
      clear hb
      go_wp2
      go_ret2
      exact ⟨rfl, by repeat (first | exact Below.refl _ _ | exact hB2.out | exact hB1.out | refine Below.alloc ?_ (by first | omega | (simp; done) | (simp; omega)) _ | refine Below.setCell ?_ (by first | omega | (simp; done) | (simp; omega)) _ | refine Below.drew ?_)⟩

/-! ### Back -/
def backK (k : Nat) (f : Bool) : Nat := if f then k else (4 - k) % 4
theorem backK_lt {k : Nat} (hk : k < 4) (f : Bool) : backK k f < 4 := by unfold backK; split <;> omega
theorem back_tv {k : Nat} (hk : k < 4) : tvx k = tvx (backK k false) ∧ -tvy k = tvy (backK k false) := by
  have hk' : k = 0 ∨ k = 1 ∨ k = 2 ∨ k = 3 := by omega
  rcases hk' with rfl | rfl | rfl | rfl <;> decide

set_option maxHeartbeats 1000000 in
theorem back_no {a b c d : Nat} (f : Bool) (hw : Wide a b c d) (h : ¬ ∃ k x y, IsMap a b c d k x y) (w : World) :
    Calls Try.prog 45 #[isoV a b f c d] w fun e w' => e = .returned (.tuple #[isoZero, .int .i64 50]) ∧ Below w.heap.size w w' := by
  have K10 := fun W => valid_no f hw h W
  have K1 := Lib.hid K10
  clear K10
  clear h hw
  go_enter Try.func45, Try.ntmps45
  go_wp2_with fail
  refine (K1.out _).mono ?_
  rintro e w1 ⟨rfl, hb⟩
  obtain ⟨hc1, hf1⟩ := bcell hb
  have hs1 : w.heap.size ≤ w1.heap.size := by have := hb.size; (try simp at this); omega
  have hz1_0 : w.heap.size < w1.heap.size := by have := hb.size; (try simp at this); omega
  have hz1_1 : w.heap.size + 1 < w1.heap.size := by have := hb.size; (try simp at this); omega
  have hB1 := Lib.hid (below_then (B := w.heap.size) (w := w) (by repeat (first | exact Below.refl _ _ | refine Below.alloc ?_ (by first | omega | (simp; done) | (simp; omega)) _ | refine Below.setCell ?_ (by first | omega | (simp; done) | (simp; omega)) _ | refine Below.drew ?_)) hb (by first | omega | (simp; done) | (simp; omega)))
  clear hb
  go_wp2
  exact bodyPost_ret (v := .tuple #[isoZero, .int .i64 50]) (by simp [results, Try.results45, go_sem, hc1, hz1_0, hz1_1, isoZero]) rfl ⟨rfl, by repeat (first | exact Below.refl _ _ | exact hB1.out | refine Below.alloc ?_ (by first | omega | (simp; done) | (simp; omega)) _ | refine Below.setCell ?_ (by first | omega | (simp; done) | (simp; omega)) _ | refine Below.drew ?_)⟩

set_option maxHeartbeats 1000000 in
theorem rback_no {a b c d : Nat} (f : Bool) (hw : Wide a b c d) (h : ¬ ∃ k x y, IsMap a b c d k x y) (w : World) :
    Calls Try.prog 46 #[isoV a b f c d] w fun e w' => e = .returned (.tuple #[isoZero, .int .i64 50]) ∧ Below w.heap.size w w' := by
  have K10 := fun W => parts_no f hw h W
  have K1 := Lib.hid K10
  clear K10
  unfold noParts at K1
  clear h hw
  go_enter Try.func46, Try.ntmps46
  go_wp2_with fail
  refine (K1.out _).mono ?_
  rintro e w1 ⟨rfl, hb⟩
  obtain ⟨hc1, hf1⟩ := bcell hb
  have hs1 : w.heap.size ≤ w1.heap.size := by have := hb.size; (try simp at this); omega
  have hz1_0 : w.heap.size < w1.heap.size := by have := hb.size; (try simp at this); omega
  have hz1_1 : w.heap.size + 1 < w1.heap.size := by have := hb.size; (try simp at this); omega
  have hB1 := Lib.hid (below_then (B := w.heap.size) (w := w) (by repeat (first | exact Below.refl _ _ | refine Below.alloc ?_ (by first | omega | (simp; done) | (simp; omega)) _ | refine Below.setCell ?_ (by first | omega | (simp; done) | (simp; omega)) _ | refine Below.drew ?_)) hb (by first | omega | (simp; done) | (simp; omega)))
  clear hb
  go_wp2
  exact bodyPost_ret (v := .tuple #[isoZero, .int .i64 50]) (by simp [results, Try.results46, go_sem, hc1, hz1_0, hz1_1, isoZero]) rfl ⟨rfl, by repeat (first | exact Below.refl _ _ | exact hB1.out | refine Below.alloc ?_ (by first | omega | (simp; done) | (simp; omega)) _ | refine Below.setCell ?_ (by first | omega | (simp; done) | (simp; omega)) _ | refine Below.drew ?_)⟩

def backN (k : Nat) (f : Bool) : Nat := backK k f + (if f then 4 else 0)
theorem backN_lin (k : Nat) (f : Bool) : ((backN k f : Nat) : Int) = linN (backK k f) f := by unfold backN linN; cases f <;> simp
theorem back_table : ∀ (k : Fin 4) (f : Bool) (j : Fin 8), (linN (thenK k (j % 4) (decide (4 ≤ j.val))) (f != decide (4 ≤ j.val)) = 0) ↔ j.val = backN k f := by decide +kernel
theorem linN_j (j : Nat) (hj : j < 8) : linN (j % 4) (decide (4 ≤ j)) = (j : Int) := by
  unfold linN
  by_cases h : 4 ≤ j
  · simp [h]; omega
  · simp [h]; omega

set_option maxHeartbeats 4000000 in
theorem rback_yes {a b c d k : Nat} {x y : Int} (f : Bool) (h : IsMap a b c d k x y) (w : World) :
    Calls Try.prog 46 #[isoV a b f c d] w fun e w' => e = .returned (.tuple #[isoF (backK k f) f (-(dox (backK k f) f 0 x y)) (-(doy (backK k f) f 0 x y)), .int .i64 0]) ∧ Below w.heap.size w w' := by
  have hk := h.turn.1
  have K10 := fun W => parts_yes f h W
  have K1 := Lib.hid K10
  clear K10
  have C0 : ∀ j : Nat, j < 8 → ∀ W, Calls Try.prog 68 #[.int .i64 (linN k f), .int .i64 j] W fun e w' => e = .returned (.int .i64 (linN (thenK k (j % 4) (decide (4 ≤ j))) (f != decide (4 ≤ j)))) ∧ W = w' := fun j hj W => by
    have := rboth hk f (l := j % 4) (by omega) (decide (4 ≤ j)) W
    rwa [linN_j j hj] at this
  have C := Lib.hid C0
  clear C0
  have T := Lib.hid (fun j hj => back_table ⟨k, hk⟩ f ⟨j, hj⟩)
  have hbN : backN k f < 8 := by unfold backN; have := backK_lt hk f; split <;> omega
  have bl := backN_lin k f
  have L0 := fun W => linear f (backK_lt hk f) (x := x) (y := y) (by have := h.x.2; omega) (by have := h.y.2; omega) W
  rw [← bl] at L0
  have L := Lib.hid L0
  clear L0
  obtain ⟨b1, b2⟩ := dox_bound (backK_lt hk f) f (x := 0) (y := 0) (u := x) (v := y) (by omega) (by omega) (by have h5 := h.x.2; have h6 := h.y.2; unfold Near; omega)
  have R0 := fun W => rmade_lin f (backK_lt hk f) (x := -(dox (backK k f) f 0 x y)) (y := -(doy (backK k f) f 0 x y)) (by omega) (by omega) W
  rw [← bl] at R0
  have R := Lib.hid R0
  clear R0 bl
  have l1 : -4398046511104 ≤ dox (backK k f) f 0 x y := by omega
  have l2 : dox (backK k f) f 0 x y ≤ 4398046511104 := by omega
  have l3 : -4398046511104 ≤ doy (backK k f) f 0 x y := by omega
  have l4 : doy (backK k f) f 0 x y ≤ 4398046511104 := by omega
  clear h b1 b2
  unfold isoF at *
  generalize dox (backK k f) f 0 x y = U at *
  generalize doy (backK k f) f 0 x y = V at *
  generalize F (tvx (backK k f)) = p1 at *
  generalize F (tvy (backK k f)) = p2 at *
  generalize F (-U) = p3 at *
  generalize F (-V) = p4 at *
  generalize backN k f = B at *
  generalize hbo : (fun j : Nat => linN (thenK k (j % 4) (decide (4 ≤ j))) (f != decide (4 ≤ j))) = bo
  have C' : Hid (∀ j : Nat, j < 8 → ∀ W, Calls Try.prog 68 #[.int .i64 (linN k f), .int .i64 j] W fun e w' => e = .returned (.int .i64 (bo j)) ∧ W = w') := by
    subst hbo; exact C
  have T' : Hid (∀ j : Nat, j < 8 → (bo j = 0 ↔ j = B)) := by
    subst hbo; exact fun j hj => T.out j hj
  clear C T hbo
  generalize linN k f = n at *
  go_enter Try.func46, Try.ntmps46
  go_wp2_with fail
  refine (K1.out _).mono ?_
  rintro e w1 ⟨rfl, hb⟩
  obtain ⟨hc1, hf1⟩ := bcell hb
  have hs1 : w.heap.size ≤ w1.heap.size := by have := hb.size; (try simp at this); omega
  have hz1_0 : w.heap.size < w1.heap.size := by have := hb.size; (try simp at this); omega
  have hz1_1 : w.heap.size + 1 < w1.heap.size := by have := hb.size; (try simp at this); omega
  have hB1 := Lib.hid (below_then (B := w.heap.size) (w := w) (by repeat (first | exact Below.refl _ _ | refine Below.alloc ?_ (by first | omega | (simp; done) | (simp; omega)) _ | refine Below.setCell ?_ (by first | omega | (simp; done) | (simp; omega)) _ | refine Below.drew ?_)) hb (by first | omega | (simp; done) | (simp; omega)))
  clear hb
  go_wp2
  go_loop [8] (fun i => ∃ j : Nat, j ≤ B ∧ i = .int .i64 j) (fun i => 8 - (intOf i).toNat)
  case atStart => exact ⟨0, Nat.zero_le _, rfl⟩
  case round =>
    obtain ⟨j, hj, rfl⟩ := hrel
    have hj8 : j < 8 := by omega
    have Tj := Lib.hid (T'.out j hj8)
    go_wp2_with fail
    refine (C'.out _ hj8 _).mono ?_
    rintro e w0 ⟨rfl, rfl⟩
    by_cases hjB : j = B
    · have e0 : (bo j == 0) = true := by simp [Tj.out.2 hjB]
      have e1 : (bo j != 0) = false := by simp [Tj.out.2 hjB]
      obtain rfl : j = B := hjB
      clear hj
      go_wp2_with fail
      refine (L.out _).mono ?_
      rintro e w0 ⟨rfl, rfl⟩
      go_wp2_with fail
      refine (R.out _).mono ?_
      rintro e w2 ⟨rfl, hb⟩
      obtain ⟨hc2, hf2⟩ := bcell hb
      have hs2 : w.heap.size ≤ w2.heap.size := by have := hb.size; (try simp at this); omega
      have hz2_0 : w.heap.size < w2.heap.size := by have := hb.size; (try simp at this); omega
      have hz2_1 : w.heap.size + 1 < w2.heap.size := by have := hb.size; (try simp at this); omega
      have hB2 := Lib.hid (below_then (B := w.heap.size) (w := w) (by repeat (first | exact Below.refl _ _ | exact hB1.out | refine Below.alloc ?_ (by first | omega | (simp; done) | (simp; omega)) _ | refine Below.setCell ?_ (by first | omega | (simp; done) | (simp; omega)) _ | refine Below.drew ?_)) hb (by first | omega | (simp; done) | (simp; omega)))
      clear hb
      go_wp2
      exact bodyPost_ret (v := .tuple #[isoV p1 p2 f p3 p4, .int .i64 0]) (by simp [results, Try.results46, go_sem, hc1, hc2, hz1_0, hz1_1, hz2_0, hz2_1]) rfl ⟨rfl, by repeat (first | exact Below.refl _ _ | exact hB2.out | exact hB1.out | refine Below.alloc ?_ (by first | omega | (simp; done) | (simp; omega)) _ | refine Below.setCell ?_ (by first | omega | (simp; done) | (simp; omega)) _ | refine Below.drew ?_)⟩
    · have hb0 : ¬ bo j = 0 := fun e => hjB (Tj.out.1 e)
      have e0 : (bo j == 0) = false := by simpa using hb0
      have e1 : (bo j != 0) = true := by simpa using hb0
      have hlt : j < B := by omega
      clear hb0 hjB
      go_wp2
      go_round
      case rel => exact ⟨j + 1, by omega, by go_num⟩
      case measure => simp [intOf]; omega
end Go.Proofs.Ytjomgjlicfoehaa
