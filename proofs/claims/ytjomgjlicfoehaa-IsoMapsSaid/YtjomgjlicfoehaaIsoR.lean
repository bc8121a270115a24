import Derived.Test.YtjomgjlicfoehaaIsoQ
import Derived.Test.YtjomgjlicfoehaaIsoAts
import Derived.Deep.RegionHeld3
namespace Go.Proofs.Ytjomgjlicfoehaa
open Go.RowKit Flt
attribute [local go_sem] run_store_float run_store_complex unary_neg_float unary_neg_complex
set_option linter.unusedSimpArgs false
set_option linter.unusedVariables false

/-- Both calls answer one map in its one form (or none), with one number. -/
structure OneMap (f1 f2 : FuncId) (args : Array Value) (a b : Nat) (f : Bool) (c d : Nat) (er : Int) : Prop where
  h1 : ∀ W, Calls Try.prog f1 args W fun e w' => e = .returned (.tuple #[isoV a b f c d, .int .i64 er]) ∧ Below W.heap.size W w'
  h2 : ∀ W, Calls Try.prog f2 args W fun e w' => e = .returned (.tuple #[isoV a b f c d, .int .i64 er]) ∧ Below W.heap.size W w'
  h3 : ∀ W, Calls Try.prog 35 #[isoV a b f c d] W fun e w' => e = .returned (.bool true) ∧ Below W.heap.size W w'
  h4 : ∀ W, (binOp .eql 38 (isoV a b f c d) (isoV a b f c d)).run Try.prog W = .ok (.bool true) W

theorem iso_self {k : Nat} (hk : k < 4) (f : Bool) {x y : Int} (hx : x.natAbs < 9007199254740992) (hy : y.natAbs < 9007199254740992) (W : World) : (binOp .eql 38 (isoF k f x y) (isoF k f x y)).run Try.prog W = .ok (.bool true) W := by
  have t := tv_abs hk
  unfold isoF
  rw [run_eq_iso, eqc_int (isInt_F _ (by omega)) (isInt_F _ (by omega)) (isInt_F _ (by omega)) (isInt_F _ (by omega)), eqc_int (isInt_F _ hx) (isInt_F _ hy) (isInt_F _ hx) (isInt_F _ hy)]
  simp
theorem zero_self (W : World) : (binOp .eql 38 isoZero isoZero).run Try.prog W = .ok (.bool true) W := by
  unfold isoZero
  rw [run_eq_iso, eqc_int isInt_zero isInt_zero isInt_zero isInt_zero]
  simp

theorem then_both {a b c d a' b' c' d' : Nat} (f g : Bool) (hw : Wide a b c d) (hw' : Wide a' b' c' d') : ∃ p q t r s er, OneMap 36 37 #[isoV a b f c d, isoV a' b' g c' d'] p q t r s er := by
  by_cases h : ∃ k x y, IsMap a b c d k x y
  · obtain ⟨k, x, y, h⟩ := h
    by_cases h' : ∃ k x y, IsMap a' b' c' d' k x y
    · obtain ⟨l, x', y', h'⟩ := h'
      have h1 : ∀ W, Calls Try.prog 36 #[isoV a b f c d, isoV a' b' g c' d'] W fun e w' => e = .returned (farV (nearB (dox l g x' x y) (doy l g y' x y)) (isoF (thenK k l g) (f != g) (dox l g x' x y) (doy l g y' x y))) ∧ Below W.heap.size W w' := fun W => by
        cases g
        · exact then_dir f h h' W
        · exact then_flip f h h' W
      have h2 := fun W => rthen_yes f g h h' W
      have hb := dox_bound (k := l) h'.turn.1 g (x := x') (y := y') (u := x) (v := y) h'.x.2 h'.y.2 (by have h5 := h.x.2; have h6 := h.y.2; unfold Near; omega)
      cases hn : nearB (dox l g x' x y) (doy l g y' x y) with
      | true =>
        simp only [hn, farV, if_true] at h1 h2
        exact ⟨_, _, _, _, _, 0, h1, h2, fun W => lclean_iso (thenK_lt k l g) _ (by omega) (by omega) W, fun W => iso_self (thenK_lt k l g) _ (by omega) (by omega) W⟩
      | false =>
        simp only [hn, farV, Bool.false_eq_true, if_false] at h1 h2
        exact ⟨_, _, _, _, _, 5, h1, h2, lclean_zero, zero_self⟩
    · exact ⟨_, _, _, _, _, 50, fun W => then_no2 f g h hw' h' W, fun W => rthen_no2 f g h hw' h' W, lclean_zero, zero_self⟩
  · exact ⟨_, _, _, _, _, 50, fun W => then_no1 f g hw h W, fun W => rthen_no1 f g hw h hw' W, lclean_zero, zero_self⟩

theorem same_both {a b c d a' b' c' d' : Nat} (f g : Bool) (hw : Wide a b c d) (hw' : Wide a' b' c' d') : ∃ (s : Bool) (er : Int),
    (∀ W, Calls Try.prog 38 #[isoV a b f c d, isoV a' b' g c' d'] W fun e w' => e = .returned (.tuple #[.bool s, .int .i64 er]) ∧ Below W.heap.size W w') ∧
    (∀ W, Calls Try.prog 39 #[isoV a b f c d, isoV a' b' g c' d'] W fun e w' => e = .returned (.tuple #[.bool s, .int .i64 er]) ∧ Below W.heap.size W w') := by
  by_cases h : ∃ k x y, IsMap a b c d k x y
  · obtain ⟨k, x, y, h⟩ := h
    by_cases h' : ∃ k x y, IsMap a' b' c' d' k x y
    · obtain ⟨l, x', y', h'⟩ := h'
      exact ⟨_, 0, fun W => same_yes f g h h' W, fun W => rsame_yes f g h h' W⟩
    · exact ⟨_, 50, fun W => same_no2 f g h hw' h' W, fun W => rsame_no2 f g h hw' h' W⟩
  · exact ⟨_, 50, fun W => same_no1 f g hw h W, fun W => rsame_no1 f g hw h hw' W⟩

set_option maxRecDepth 100000 in
set_option maxHeartbeats 4000000 in
theorem isoThens_walk (a b c d a' b' c' d' : Nat) (f g : Bool) (hw : Wide a b c d) (hw' : Wide a' b' c' d') (w : World) :
    Calls Try.prog 8 #[mapV a b f c d, mapV a' b' g c' d'] w fun e w' => e = .returned (.bool true) ∧ Below w.heap.size w w' := by
  obtain ⟨p, q, t, r, s, er, h1, h2, h3, h4⟩ := then_both f g hw hw'
  obtain ⟨sm, es, h5, h6⟩ := same_both f g hw hw'
  have d1 := Lib.hid h1
  have d2 := Lib.hid h2
  have d3 := Lib.hid h3
  have d5 := Lib.hid h5
  have d6 := Lib.hid h6
  clear h1 h2 h3 h5 h6 hw hw'
  go_enter Try.func8, Try.ntmps8
  go_wp2_with fail
  refine (alive05 _).mono ?_
  rintro e w1 ⟨rfl, hb⟩
  obtain ⟨hc1, hf1⟩ := bcell hb
  have hs1 : w.heap.size ≤ w1.heap.size := by have := hb.size; (try simp at this); omega
  have hz1_0 : w.heap.size < w1.heap.size := by have := hb.size; (try simp at this); omega
  have hz1_1 : w.heap.size + 1 < w1.heap.size := by have := hb.size; (try simp at this); omega
  have hB1 := Lib.hid (below_then (B := w.heap.size) (w := w) (by repeat (first | exact Below.refl _ _ | refine Below.alloc ?_ (by first | omega | (simp; done) | (simp; omega)) _ | refine Below.setCell ?_ (by first | omega | (simp; done) | (simp; omega)) _ | refine Below.drew ?_)) hb (by first | omega | (simp; done) | (simp; omega)))
  clear hb
  go_wp2_with fail
  refine (map_iso _ _ _ _ _ _).mono ?_
  rintro e w2 ⟨rfl, hb⟩
  obtain ⟨hc2, hf2⟩ := bcell hb
  have hs2 : w.heap.size ≤ w2.heap.size := by have := hb.size; (try simp at this); omega
  have hz2_0 : w.heap.size < w2.heap.size := by have := hb.size; (try simp at this); omega
  have hz2_1 : w.heap.size + 1 < w2.heap.size := by have := hb.size; (try simp at this); omega
  have hB2 := Lib.hid (below_then (B := w.heap.size) (w := w) (by repeat (first | exact Below.refl _ _ | exact hB1.out | refine Below.alloc ?_ (by first | omega | (simp; done) | (simp; omega)) _ | refine Below.setCell ?_ (by first | omega | (simp; done) | (simp; omega)) _ | refine Below.drew ?_)) hb (by first | omega | (simp; done) | (simp; omega)))
  clear hb
  go_wp2_with fail
  refine (map_iso _ _ _ _ _ _).mono ?_
  rintro e w3 ⟨rfl, hb⟩
  obtain ⟨hc3, hf3⟩ := bcell hb
  have hs3 : w.heap.size ≤ w3.heap.size := by have := hb.size; (try simp at this); omega
  have hz3_0 : w.heap.size < w3.heap.size := by have := hb.size; (try simp at this); omega
  have hz3_1 : w.heap.size + 1 < w3.heap.size := by have := hb.size; (try simp at this); omega
  have hz3_2 : w2.heap.size < w3.heap.size := by have := hb.size; (try simp at this); omega
  have hB3 := Lib.hid (below_then (B := w.heap.size) (w := w) (by repeat (first | exact Below.refl _ _ | exact hB2.out | exact hB1.out | refine Below.alloc ?_ (by first | omega | (simp; done) | (simp; omega)) _ | refine Below.setCell ?_ (by first | omega | (simp; done) | (simp; omega)) _ | refine Below.drew ?_)) hb (by first | omega | (simp; done) | (simp; omega)))
  clear hb
  go_wp2_with fail
  refine (d1.out _).mono ?_
  rintro e w4 ⟨rfl, hb⟩
  obtain ⟨hc4, hf4⟩ := bcell hb
  have hs4 : w.heap.size ≤ w4.heap.size := by have := hb.size; (try simp at this); omega
  have hz4_0 : w.heap.size < w4.heap.size := by have := hb.size; (try simp at this); omega
  have hz4_1 : w.heap.size + 1 < w4.heap.size := by have := hb.size; (try simp at this); omega
  have hz4_2 : w2.heap.size < w4.heap.size := by have := hb.size; (try simp at this); omega
  have hz4_3 : w3.heap.size < w4.heap.size := by have := hb.size; (try simp at this); omega
  have hB4 := Lib.hid (below_then (B := w.heap.size) (w := w) (by repeat (first | exact Below.refl _ _ | exact hB3.out | exact hB2.out | exact hB1.out | refine Below.alloc ?_ (by first | omega | (simp; done) | (simp; omega)) _ | refine Below.setCell ?_ (by first | omega | (simp; done) | (simp; omega)) _ | refine Below.drew ?_)) hb (by first | omega | (simp; done) | (simp; omega)))
  clear hb
  go_wp2_with fail
  refine (d2.out _).mono ?_
  rintro e w5 ⟨rfl, hb⟩
  obtain ⟨hc5, hf5⟩ := bcell hb
  have hs5 : w.heap.size ≤ w5.heap.size := by have := hb.size; (try simp at this); omega
  have hz5_0 : w.heap.size < w5.heap.size := by have := hb.size; (try simp at this); omega
  have hz5_1 : w.heap.size + 1 < w5.heap.size := by have := hb.size; (try simp at this); omega
  have hz5_2 : w2.heap.size < w5.heap.size := by have := hb.size; (try simp at this); omega
  have hz5_3 : w3.heap.size < w5.heap.size := by have := hb.size; (try simp at this); omega
  have hz5_4 : w4.heap.size < w5.heap.size := by have := hb.size; (try simp at this); omega
  have hB5 := Lib.hid (below_then (B := w.heap.size) (w := w) (by repeat (first | exact Below.refl _ _ | exact hB4.out | exact hB3.out | exact hB2.out | exact hB1.out | refine Below.alloc ?_ (by first | omega | (simp; done) | (simp; omega)) _ | refine Below.setCell ?_ (by first | omega | (simp; done) | (simp; omega)) _ | refine Below.drew ?_)) hb (by first | omega | (simp; done) | (simp; omega)))
  clear hb
  go_wp2_with fail
  refine (d5.out _).mono ?_
  rintro e w6 ⟨rfl, hb⟩
  obtain ⟨hc6, hf6⟩ := bcell hb
  have hs6 : w.heap.size ≤ w6.heap.size := by have := hb.size; (try simp at this); omega
  have hz6_0 : w.heap.size < w6.heap.size := by have := hb.size; (try simp at this); omega
  have hz6_1 : w.heap.size + 1 < w6.heap.size := by have := hb.size; (try simp at this); omega
  have hz6_2 : w2.heap.size < w6.heap.size := by have := hb.size; (try simp at this); omega
  have hz6_3 : w3.heap.size < w6.heap.size := by have := hb.size; (try simp at this); omega
  have hz6_4 : w4.heap.size < w6.heap.size := by have := hb.size; (try simp at this); omega
  have hz6_5 : w5.heap.size < w6.heap.size := by have := hb.size; (try simp at this); omega
  have hB6 := Lib.hid (below_then (B := w.heap.size) (w := w) (by repeat (first | exact Below.refl _ _ | exact hB5.out | exact hB4.out | exact hB3.out | exact hB2.out | exact hB1.out | refine Below.alloc ?_ (by first | omega | (simp; done) | (simp; omega)) _ | refine Below.setCell ?_ (by first | omega | (simp; done) | (simp; omega)) _ | refine Below.drew ?_)) hb (by first | omega | (simp; done) | (simp; omega)))
  clear hb
  go_wp2_with fail
  refine (d6.out _).mono ?_
  rintro e w7 ⟨rfl, hb⟩
  obtain ⟨hc7, hf7⟩ := bcell hb
  have hs7 : w.heap.size ≤ w7.heap.size := by have := hb.size; (try simp at this); omega
  have hz7_0 : w.heap.size < w7.heap.size := by have := hb.size; (try simp at this); omega
  have hz7_1 : w.heap.size + 1 < w7.heap.size := by have := hb.size; (try simp at this); omega
  have hz7_2 : w2.heap.size < w7.heap.size := by have := hb.size; (try simp at this); omega
  have hz7_3 : w3.heap.size < w7.heap.size := by have := hb.size; (try simp at this); omega
  have hz7_4 : w4.heap.size < w7.heap.size := by have := hb.size; (try simp at this); omega
  have hz7_5 : w5.heap.size < w7.heap.size := by have := hb.size; (try simp at this); omega
  have hB7 := Lib.hid (below_then (B := w.heap.size) (w := w) (by repeat (first | exact Below.refl _ _ | exact hB6.out | exact hB5.out | exact hB4.out | exact hB3.out | exact hB2.out | exact hB1.out | refine Below.alloc ?_ (by first | omega | (simp; done) | (simp; omega)) _ | refine Below.setCell ?_ (by first | omega | (simp; done) | (simp; omega)) _ | refine Below.drew ?_)) hb (by first | omega | (simp; done) | (simp; omega)))
  clear hb
  go_wp2_with fail
  refine (d3.out _).mono ?_
  rintro e w8 ⟨rfl, hb⟩
  obtain ⟨hc8, hf8⟩ := bcell hb
  have hs8 : w.heap.size ≤ w8.heap.size := by have := hb.size; (try simp at this); omega
  have hz8_0 : w.heap.size < w8.heap.size := by have := hb.size; (try simp at this); omega
  have hz8_1 : w.heap.size + 1 < w8.heap.size := by have := hb.size; (try simp at this); omega
  have hz8_2 : w2.heap.size < w8.heap.size := by have := hb.size; (try simp at this); omega
  have hz8_3 : w3.heap.size < w8.heap.size := by have := hb.size; (try simp at this); omega
  have hz8_4 : w4.heap.size < w8.heap.size := by have := hb.size; (try simp at this); omega
  have hz8_5 : w5.heap.size < w8.heap.size := by have := hb.size; (try simp at this); omega
  have hB8 := Lib.hid (below_then (B := w.heap.size) (w := w) (by repeat (first | exact Below.refl _ _ | exact hB7.out | exact hB6.out | exact hB5.out | exact hB4.out | exact hB3.out | exact hB2.out | exact hB1.out | refine Below.alloc ?_ (by first | omega | (simp; done) | (simp; omega)) _ | refine Below.setCell ?_ (by first | omega | (simp; done) | (simp; omega)) _ | refine Below.drew ?_)) hb (by first | omega | (simp; done) | (simp; omega)))
  clear hb
  go_wp2
  go_ret
  exact ⟨rfl, by repeat (first | exact Below.refl _ _ | exact hB8.out | exact hB7.out | exact hB6.out | exact hB5.out | exact hB4.out | exact hB3.out | exact hB2.out | exact hB1.out | refine Below.alloc ?_ (by first | omega | (simp; done) | (simp; omega)) _ | refine Below.setCell ?_ (by first | omega | (simp; done) | (simp; omega)) _ | refine Below.drew ?_)⟩

set_option maxHeartbeats 4000000 in
theorem isoParts_walk (k : Int) (w : World) : Calls Try.prog 9 #[.int .i64 k] w fun e w' => e = .returned (.bool true) ∧ Below w.heap.size w w' := by
  have key : ∃ p q t r s er n en, OneMap 40 41 #[.int .i64 k] p q t r s er ∧ (∀ W, Calls Try.prog 42 #[.int .i64 k] W fun e w' => e = .returned (.tuple #[.int .i64 n, .int .i64 en]) ∧ Below W.heap.size W w') ∧
      (∀ W, Calls Try.prog 43 #[.int .i64 k] W fun e w' => e = .returned (.tuple #[.int .i64 n, .int .i64 en]) ∧ Below W.heap.size W w') := by
    by_cases h : k < 0 ∨ 7 < k
    · exact ⟨_, _, _, _, _, 2, 0, 2, ⟨fun W => part_no h W, fun W => rpart_no h W, lclean_zero, zero_self⟩, fun W => times_no h W, fun W => rtimes_no h W⟩
    · obtain ⟨n, rfl⟩ := Int.eq_ofNat_of_zero_le (show 0 ≤ k by omega)
      have hn : n < 8 := by omega
      have e := linN_j n hn
      have h4 : n % 4 < 4 := by omega
      have t1 := fun W => times_yes (decide (4 ≤ n)) h4 W
      have t2 := fun W => rtimes_yes (decide (4 ≤ n)) h4 W
      rw [e] at t1 t2
      exact ⟨_, _, _, _, _, 0, _, 0, ⟨fun W => part_yes hn W, fun W => rpart_yes hn W, fun W => lclean_iso h4 _ (by omega) (by omega) W, fun W => iso_self h4 _ (by omega) (by omega) W⟩, t1, t2⟩
  obtain ⟨p, q, t, r, s, er, n, en, ⟨h1, h2, h3, h4⟩, h5, h6⟩ := key
  have d1 := Lib.hid h1
  have d2 := Lib.hid h2
  have d3 := Lib.hid h3
  have d5 := Lib.hid h5
  have d6 := Lib.hid h6
  clear h1 h2 h3 h5 h6
  go_enter Try.func9, Try.ntmps9
  go_wp2_with fail
  refine (alive05 _).mono ?_
  rintro e w1 ⟨rfl, hb⟩
  obtain ⟨hc1, hf1⟩ := bcell hb
  have hs1 : w.heap.size ≤ w1.heap.size := by have := hb.size; (try simp at this); omega
  have hB1 := Lib.hid (below_then (B := w.heap.size) (w := w) (by repeat (first | exact Below.refl _ _ | refine Below.alloc ?_ (by first | omega | (simp; done) | (simp; omega)) _ | refine Below.setCell ?_ (by first | omega | (simp; done) | (simp; omega)) _ | refine Below.drew ?_)) hb (by first | omega | (simp; done) | (simp; omega)))
  clear hb
  go_wp2_with fail
  refine (d1.out _).mono ?_
  rintro e w2 ⟨rfl, hb⟩
  obtain ⟨hc2, hf2⟩ := bcell hb
  have hs2 : w.heap.size ≤ w2.heap.size := by have := hb.size; (try simp at this); omega
  have hB2 := Lib.hid (below_then (B := w.heap.size) (w := w) (by repeat (first | exact Below.refl _ _ | exact hB1.out | refine Below.alloc ?_ (by first | omega | (simp; done) | (simp; omega)) _ | refine Below.setCell ?_ (by first | omega | (simp; done) | (simp; omega)) _ | refine Below.drew ?_)) hb (by first | omega | (simp; done) | (simp; omega)))
  clear hb
  go_wp2_with fail
  refine (d2.out _).mono ?_
  rintro e w3 ⟨rfl, hb⟩
  obtain ⟨hc3, hf3⟩ := bcell hb
  have hs3 : w.heap.size ≤ w3.heap.size := by have := hb.size; (try simp at this); omega
  have hz3_0 : w2.heap.size < w3.heap.size := by have := hb.size; (try simp at this); omega
  have hB3 := Lib.hid (below_then (B := w.heap.size) (w := w) (by repeat (first | exact Below.refl _ _ | exact hB2.out | exact hB1.out | refine Below.alloc ?_ (by first | omega | (simp; done) | (simp; omega)) _ | refine Below.setCell ?_ (by first | omega | (simp; done) | (simp; omega)) _ | refine Below.drew ?_)) hb (by first | omega | (simp; done) | (simp; omega)))
  clear hb
  go_wp2_with fail
  refine (d5.out _).mono ?_
  rintro e w4 ⟨rfl, hb⟩
  obtain ⟨hc4, hf4⟩ := bcell hb
  have hs4 : w.heap.size ≤ w4.heap.size := by have := hb.size; (try simp at this); omega
  have hz4_0 : w2.heap.size < w4.heap.size := by have := hb.size; (try simp at this); omega
  have hz4_1 : w3.heap.size < w4.heap.size := by have := hb.size; (try simp at this); omega
  have hB4 := Lib.hid (below_then (B := w.heap.size) (w := w) (by repeat (first | exact Below.refl _ _ | exact hB3.out | exact hB2.out | exact hB1.out | refine Below.alloc ?_ (by first | omega | (simp; done) | (simp; omega)) _ | refine Below.setCell ?_ (by first | omega | (simp; done) | (simp; omega)) _ | refine Below.drew ?_)) hb (by first | omega | (simp; done) | (simp; omega)))
  clear hb
  go_wp2_with fail
  refine (d6.out _).mono ?_
  rintro e w5 ⟨rfl, hb⟩
  obtain ⟨hc5, hf5⟩ := bcell hb
  have hs5 : w.heap.size ≤ w5.heap.size := by have := hb.size; (try simp at this); omega
  have hz5_0 : w2.heap.size < w5.heap.size := by have := hb.size; (try simp at this); omega
  have hz5_1 : w3.heap.size < w5.heap.size := by have := hb.size; (try simp at this); omega
  have hB5 := Lib.hid (below_then (B := w.heap.size) (w := w) (by repeat (first | exact Below.refl _ _ | exact hB4.out | exact hB3.out | exact hB2.out | exact hB1.out | refine Below.alloc ?_ (by first | omega | (simp; done) | (simp; omega)) _ | refine Below.setCell ?_ (by first | omega | (simp; done) | (simp; omega)) _ | refine Below.drew ?_)) hb (by first | omega | (simp; done) | (simp; omega)))
  clear hb
  go_wp2_with fail
  refine (d3.out _).mono ?_
  rintro e w6 ⟨rfl, hb⟩
  obtain ⟨hc6, hf6⟩ := bcell hb
  have hs6 : w.heap.size ≤ w6.heap.size := by have := hb.size; (try simp at this); omega
  have hz6_0 : w2.heap.size < w6.heap.size := by have := hb.size; (try simp at this); omega
  have hz6_1 : w3.heap.size < w6.heap.size := by have := hb.size; (try simp at this); omega
  have hB6 := Lib.hid (below_then (B := w.heap.size) (w := w) (by repeat (first | exact Below.refl _ _ | exact hB5.out | exact hB4.out | exact hB3.out | exact hB2.out | exact hB1.out | refine Below.alloc ?_ (by first | omega | (simp; done) | (simp; omega)) _ | refine Below.setCell ?_ (by first | omega | (simp; done) | (simp; omega)) _ | refine Below.drew ?_)) hb (by first | omega | (simp; done) | (simp; omega)))
  clear hb
  go_wp2
  go_ret
  exact ⟨rfl, by repeat (first | exact Below.refl _ _ | exact hB6.out | exact hB5.out | exact hB4.out | exact hB3.out | exact hB2.out | exact hB1.out | refine Below.alloc ?_ (by first | omega | (simp; done) | (simp; omega)) _ | refine Below.setCell ?_ (by first | omega | (simp; done) | (simp; omega)) _ | refine Below.drew ?_)⟩

theorem maps_both {a b c d : Nat} (f : Bool) (hw : Wide a b c d) : ∃ n en p q t r s er v,
    (∀ W, Calls Try.prog 29 #[isoV a b f c d] W fun e w' => e = .returned (.tuple #[.int .i64 n, .int .i64 en]) ∧ Below W.heap.size W w') ∧
    (∀ W, Calls Try.prog 44 #[isoV a b f c d] W fun e w' => e = .returned (.tuple #[.int .i64 n, .int .i64 en]) ∧ Below W.heap.size W w') ∧
    OneMap 45 46 #[isoV a b f c d] p q t r s er ∧
    (∀ W, Calls Try.prog 30 #[isoV a b f c d] W fun e w' => e = .returned (.bool v) ∧ Below W.heap.size W w') ∧
    (∀ W, Calls Try.prog 47 #[isoV a b f c d] W fun e w' => e = .returned (.bool v) ∧ Below W.heap.size W w') := by
  by_cases h : ∃ k x y, IsMap a b c d k x y
  · obtain ⟨k, x, y, h⟩ := h
    have hk := backK_lt h.turn.1 f
    have hb := dox_bound hk f (x := 0) (y := 0) (u := x) (v := y) (by omega) (by omega) (by have h5 := h.x.2; have h6 := h.y.2; unfold Near; omega)
    exact ⟨_, 0, _, _, _, _, _, 0, true, fun W => which_yes f h W, fun W => rwhich_yes f h W, ⟨fun W => back_yes f h W, fun W => rback_yes f h W, fun W => lclean_iso hk _ (by omega) (by omega) W, fun W => iso_self hk _ (by omega) (by omega) W⟩,
      fun W => valid_yes f h W, fun W => rvalid_yes f h W⟩
  · exact ⟨0, 50, _, _, _, _, _, 50, false, fun W => which_no f hw h W, fun W => rwhich_no f hw h W, ⟨fun W => back_no f hw h W, fun W => rback_no f hw h W, lclean_zero, zero_self⟩, fun W => valid_no f hw h W, fun W => rvalid_no f hw h W⟩

theorem maps_keep {W w' : World} {n : Nat} {a b c : Value} (h : W.cell? ⟨n, 0, none⟩ = some a ∧ W.cell? ⟨n, 1, none⟩ = some b ∧ W.cell? ⟨n, 2, none⟩ = some c)
    (hb : Below W.heap.size W w') : w'.cell? ⟨n, 0, none⟩ = some a ∧ w'.cell? ⟨n, 1, none⟩ = some b ∧ w'.cell? ⟨n, 2, none⟩ = some c :=
  ⟨cell_kept hb h.1, cell_kept hb h.2.1, cell_kept hb h.2.2⟩

set_option maxRecDepth 100000 in
set_option maxHeartbeats 4000000 in
theorem isoMaps_walk (a b c d : Nat) (f : Bool) (hw : Wide a b c d) (w : World) :
    Calls Try.prog 10 #[mapV a b f c d] w fun e w' => e = .returned (.bool true) ∧ Below w.heap.size w w' := by
  obtain ⟨n, en, p, q, t, r, s, er, v, g1, g2, ⟨h1, h2, h3, h4⟩, h5, h6⟩ := maps_both f hw
  have k1 := Lib.hid g1
  have k2 := Lib.hid g2
  have d1 := Lib.hid h1
  have d2 := Lib.hid h2
  have d3 := Lib.hid h3
  have d5 := Lib.hid h5
  have d6 := Lib.hid h6
  clear h1 h2 h3 h5 h6 hw g1 g2
  have hvv : (v == v) = true := by simp
  go_enter Try.func10, Try.ntmps10
  go_wp2_with fail
  refine (alive05 _).mono ?_
  rintro e w1 ⟨rfl, hb⟩
  obtain ⟨hc1, hf1⟩ := bcell hb
  have hs1 : w.heap.size ≤ w1.heap.size := by have := hb.size; (try simp at this); omega
  have hz1_0 : w.heap.size < w1.heap.size := by have := hb.size; (try simp at this); omega
  have hB1 := Lib.hid (below_then (B := w.heap.size) (w := w) (by repeat (first | exact Below.refl _ _ | refine Below.alloc ?_ (by first | omega | (simp; done) | (simp; omega)) _ | refine Below.setCell ?_ (by first | omega | (simp; done) | (simp; omega)) _ | refine Below.drew ?_)) hb (by first | omega | (simp; done) | (simp; omega)))
  clear hb
  go_wp2_with fail
  refine (map_iso _ _ _ _ _ _).mono ?_
  rintro e w2 ⟨rfl, hb⟩
  obtain ⟨hc2, hf2⟩ := bcell hb
  have hs2 : w.heap.size ≤ w2.heap.size := by have := hb.size; (try simp at this); omega
  have hz2_0 : w.heap.size < w2.heap.size := by have := hb.size; (try simp at this); omega
  have hB2 := Lib.hid (below_then (B := w.heap.size) (w := w) (by repeat (first | exact Below.refl _ _ | exact hB1.out | refine Below.alloc ?_ (by first | omega | (simp; done) | (simp; omega)) _ | refine Below.setCell ?_ (by first | omega | (simp; done) | (simp; omega)) _ | refine Below.drew ?_)) hb (by first | omega | (simp; done) | (simp; omega)))
  clear hb
  go_wp2_with fail
  refine (k1.out _).mono ?_
  rintro e w3 ⟨rfl, hb⟩
  obtain ⟨hc3, hf3⟩ := bcell hb
  have hs3 : w.heap.size ≤ w3.heap.size := by have := hb.size; (try simp at this); omega
  have hz3_0 : w.heap.size < w3.heap.size := by have := hb.size; (try simp at this); omega
  have hz3_1 : w2.heap.size < w3.heap.size := by have := hb.size; (try simp at this); omega
  have hB3 := Lib.hid (below_then (B := w.heap.size) (w := w) (by repeat (first | exact Below.refl _ _ | exact hB2.out | exact hB1.out | refine Below.alloc ?_ (by first | omega | (simp; done) | (simp; omega)) _ | refine Below.setCell ?_ (by first | omega | (simp; done) | (simp; omega)) _ | refine Below.drew ?_)) hb (by first | omega | (simp; done) | (simp; omega)))
  clear hb
  go_wp2_with fail
  refine (k2.out _).mono ?_
  rintro e w4 ⟨rfl, hb⟩
  obtain ⟨hc4, hf4⟩ := bcell hb
  have hs4 : w.heap.size ≤ w4.heap.size := by have := hb.size; (try simp at this); omega
  have hz4_0 : w.heap.size < w4.heap.size := by have := hb.size; (try simp at this); omega
  have hz4_1 : w2.heap.size < w4.heap.size := by have := hb.size; (try simp at this); omega
  have hB4 := Lib.hid (below_then (B := w.heap.size) (w := w) (by repeat (first | exact Below.refl _ _ | exact hB3.out | exact hB2.out | exact hB1.out | refine Below.alloc ?_ (by first | omega | (simp; done) | (simp; omega)) _ | refine Below.setCell ?_ (by first | omega | (simp; done) | (simp; omega)) _ | refine Below.drew ?_)) hb (by first | omega | (simp; done) | (simp; omega)))
  clear hb
  go_wp2_with fail
  refine (d1.out _).mono ?_
  rintro e w5 ⟨rfl, hb⟩
  obtain ⟨hc5, hf5⟩ := bcell hb
  have hs5 : w.heap.size ≤ w5.heap.size := by have := hb.size; (try simp at this); omega
  have hz5_0 : w.heap.size < w5.heap.size := by have := hb.size; (try simp at this); omega
  have hz5_1 : w2.heap.size < w5.heap.size := by have := hb.size; (try simp at this); omega
  have hB5 := Lib.hid (below_then (B := w.heap.size) (w := w) (by repeat (first | exact Below.refl _ _ | exact hB4.out | exact hB3.out | exact hB2.out | exact hB1.out | refine Below.alloc ?_ (by first | omega | (simp; done) | (simp; omega)) _ | refine Below.setCell ?_ (by first | omega | (simp; done) | (simp; omega)) _ | refine Below.drew ?_)) hb (by first | omega | (simp; done) | (simp; omega)))
  clear hb
  go_wp2_with fail
  refine (d2.out _).mono ?_
  rintro e w6 ⟨rfl, hb⟩
  obtain ⟨hc6, hf6⟩ := bcell hb
  have hs6 : w.heap.size ≤ w6.heap.size := by have := hb.size; (try simp at this); omega
  have hz6_0 : w.heap.size < w6.heap.size := by have := hb.size; (try simp at this); omega
  have hz6_1 : w2.heap.size < w6.heap.size := by have := hb.size; (try simp at this); omega
  have hz6_2 : w5.heap.size < w6.heap.size := by have := hb.size; (try simp at this); omega
  have hB6 := Lib.hid (below_then (B := w.heap.size) (w := w) (by repeat (first | exact Below.refl _ _ | exact hB5.out | exact hB4.out | exact hB3.out | exact hB2.out | exact hB1.out | refine Below.alloc ?_ (by first | omega | (simp; done) | (simp; omega)) _ | refine Below.setCell ?_ (by first | omega | (simp; done) | (simp; omega)) _ | refine Below.drew ?_)) hb (by first | omega | (simp; done) | (simp; omega)))
  clear hb
  go_wp2_with fail
  obtain ⟨W6, hW6⟩ : ∃ W6, w6.alloc (.cells #[.complex .f64 p q, .bool t, .complex .f64 r s] 38) = W6 := ⟨_, rfl⟩
  have HW6 := Lib.hid hW6
  clear hW6
  have s1 : W6.cell? ⟨w2.heap.size, 0, none⟩ = some (.complex .f64 a b) := by rw [← HW6.out]; go_simp
  have s2 : W6.cell? ⟨w2.heap.size, 1, none⟩ = some (.bool f) := by rw [← HW6.out]; go_simp
  have s3 : W6.cell? ⟨w2.heap.size, 2, none⟩ = some (.complex .f64 c d) := by rw [← HW6.out]; go_simp
  have u1 : W6.cell? ⟨w5.heap.size, 0, none⟩ = some (.complex .f64 p q) := by rw [← HW6.out]; go_simp
  have u2 : W6.cell? ⟨w5.heap.size, 1, none⟩ = some (.bool t) := by rw [← HW6.out]; go_simp
  have u3 : W6.cell? ⟨w5.heap.size, 2, none⟩ = some (.complex .f64 r s) := by rw [← HW6.out]; go_simp
  have v1 : W6.cell? ⟨w6.heap.size, 0, none⟩ = some (.complex .f64 p q) := by rw [← HW6.out]; go_simp
  have v2 : W6.cell? ⟨w6.heap.size, 1, none⟩ = some (.bool t) := by rw [← HW6.out]; go_simp
  have v3 : W6.cell? ⟨w6.heap.size, 2, none⟩ = some (.complex .f64 r s) := by rw [← HW6.out]; go_simp
  have hBW : Below w.heap.size w W6 := by rw [← HW6.out]; exact Below.alloc hB6.out (by omega) _
  have hBW' := Lib.hid hBW
  have hWs : w.heap.size ≤ W6.heap.size := hBW.size
  rw [HW6.out]
  clear HW6 hBW hc1 hc2 hc3 hc4 hc5 hc6 hf1 hf2 hf3 hf4 hf5 hf6
  go_region_held3 (fun w' => w'.cell? ⟨w2.heap.size, 0, none⟩ = some (.complex .f64 a b) ∧ w'.cell? ⟨w2.heap.size, 1, none⟩ = some (.bool f) ∧ w'.cell? ⟨w2.heap.size, 2, none⟩ = some (.complex .f64 c d))
    (first | exact ⟨s1, s2, s3⟩ | exact maps_keep (W := W6) ⟨s1, s2, s3⟩ q8 | exact maps_keep (W := W6) ⟨s1, s2, s3⟩ q7)
    (first | (go_at_call 30; refine (d5.out _).mono ?_; rintro e w7 ⟨rfl, hb⟩; have q7 : Below W6.heap.size W6 w7 := ⟨hb.os, hb.tape, hb.output, hb.size, hb.block⟩) | (go_at_call 47; refine (d6.out _).mono ?_; rintro e w8 ⟨rfl, hb'⟩; have q8 : Below W6.heap.size W6 w8 := below_then q7 hb' q7.size))
  have o1 := cell_kept q8 u1
  have o2 := cell_kept q8 u2
  have o3 := cell_kept q8 u3
  have j1 := cell_kept q8 v1
  have j2 := cell_kept q8 v2
  have j3 := cell_kept q8 v3
  have hB8 := Lib.hid (below_then hBW'.out q8 hWs)
  clear q7 q8 hb hb' u1 u2 u3 v1 v2 v3 s1 s2 s3
  have hs8 : w.heap.size ≤ w8.heap.size := hB8.out.size
  go_wp2_with fail
  refine (d3.out _).mono ?_
  rintro e w9 ⟨rfl, hb⟩
  have hB9 := Lib.hid (below_then hB8.out hb hs8)
  clear hb
  go_wp2
  go_ret
  exact ⟨rfl, hB9.out⟩
end Go.Proofs.Ytjomgjlicfoehaa
