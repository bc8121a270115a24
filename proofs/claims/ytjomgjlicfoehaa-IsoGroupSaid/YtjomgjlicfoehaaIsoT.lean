import Derived.Test.YtjomgjlicfoehaaIsoS
import Derived.Deep.RegionHeld3
import Derived.Deep.QuietTactic
import Derived.BigQuiet
import Derived.IntWalk
namespace Go.Proofs.Ytjomgjlicfoehaa
open Go.RowKit Flt
attribute [local go_sem] run_store_float run_store_complex unary_neg_float unary_neg_complex
set_option linter.unusedSimpArgs false
set_option linter.unusedVariables false

def thenB (W : World) (fn : Nat) (m n r : Value) : Prop := Calls Try.prog fn #[m, n] W fun e w' => e = .returned (.tuple #[r, .int .i64 0]) ∧ Below W.heap.size W w'

set_option maxHeartbeats 4000000 in
/-- What IsoGroup's calls answer. -/
theorem group_calls (k1 x1 y1 k2 x2 y2 k3 x3 y3 px py : Int) : ∃ (a b c ab bc abc ra rb rab : M5) (p q r s u v : Int),
    (∀ W, Calls Try.prog 31 #[.int .i64 k1, .int .i64 x1, .int .i64 y1] W fun e w' => e = .returned (.tuple #[a.V, .bool true]) ∧ Below W.heap.size W w') ∧
    (∀ W, Calls Try.prog 31 #[.int .i64 k2, .int .i64 x2, .int .i64 y2] W fun e w' => e = .returned (.tuple #[b.V, .bool true]) ∧ Below W.heap.size W w') ∧
    (∀ W, Calls Try.prog 31 #[.int .i64 k3, .int .i64 x3, .int .i64 y3] W fun e w' => e = .returned (.tuple #[c.V, .bool true]) ∧ Below W.heap.size W w') ∧
    (∀ W, Calls Try.prog 32 #[.agg #[.int .i64 px, .int .i64 py]] W fun e w' => e = .returned (.agg #[.int .i64 p, .int .i64 q]) ∧ Below W.heap.size W w') ∧
    (∀ W, Calls Try.prog 36 #[a.V, b.V] W fun e w' => e = .returned (.tuple #[ab.V, .int .i64 0]) ∧ Below W.heap.size W w') ∧
    (∀ W, Calls Try.prog 36 #[b.V, c.V] W fun e w' => e = .returned (.tuple #[bc.V, .int .i64 0]) ∧ Below W.heap.size W w') ∧
    (∀ W, Calls Try.prog 36 #[ab.V, c.V] W fun e w' => e = .returned (.tuple #[abc.V, .int .i64 0]) ∧ Below W.heap.size W w') ∧
    (∀ W, Calls Try.prog 36 #[a.V, bc.V] W fun e w' => e = .returned (.tuple #[abc.V, .int .i64 0]) ∧ Below W.heap.size W w') ∧
    (∀ W, Calls Try.prog 26 #[a.V, .agg #[.int .i64 p, .int .i64 q]] W fun e w' => e = .returned (.tuple #[.agg #[.int .i64 r, .int .i64 s], .int .i64 0]) ∧ Below W.heap.size W w') ∧
    (∀ W, Calls Try.prog 26 #[b.V, .agg #[.int .i64 r, .int .i64 s]] W fun e w' => e = .returned (.tuple #[.agg #[.int .i64 u, .int .i64 v], .int .i64 0]) ∧ Below W.heap.size W w') ∧
    (∀ W, Calls Try.prog 26 #[ab.V, .agg #[.int .i64 p, .int .i64 q]] W fun e w' => e = .returned (.tuple #[.agg #[.int .i64 u, .int .i64 v], .int .i64 0]) ∧ Below W.heap.size W w') ∧
    (∀ W, Calls Try.prog 45 #[a.V] W fun e w' => e = .returned (.tuple #[ra.V, .int .i64 0]) ∧ Below W.heap.size W w') ∧
    (∀ W, Calls Try.prog 45 #[b.V] W fun e w' => e = .returned (.tuple #[rb.V, .int .i64 0]) ∧ Below W.heap.size W w') ∧
    (∀ W, Calls Try.prog 45 #[ab.V] W fun e w' => e = .returned (.tuple #[rab.V, .int .i64 0]) ∧ Below W.heap.size W w') ∧
    (∀ W, Calls Try.prog 36 #[rb.V, ra.V] W fun e w' => e = .returned (.tuple #[rab.V, .int .i64 0]) ∧ Below W.heap.size W w') ∧
    (∀ W, Calls Try.prog 38 #[abc.V, abc.V] W fun e w' => e = .returned (.tuple #[.bool true, .int .i64 0]) ∧ Below W.heap.size W w') ∧
    (∀ W, Calls Try.prog 38 #[rab.V, rab.V] W fun e w' => e = .returned (.tuple #[.bool true, .int .i64 0]) ∧ Below W.heap.size W w') := by
  have hk : kN k1 % 4 < 4 := by omega
  have hl : kN k2 % 4 < 4 := by omega
  have hm : kN k3 % 4 < 4 := by omega
  have hx1 := rem30_lt x1
  have hy1 := rem30_lt y1
  have hx2 := rem30_lt x2
  have hy2 := rem30_lt y2
  have hx3 := rem30_lt x3
  have hy3 := rem30_lt y3
  have hp := rem30_lt px
  have hq := rem30_lt py
  have c1 := fun W => lmade k1 x1 y1 W
  have c2 := fun W => lmade k2 x2 y2 W
  have c3 := fun W => lmade k3 x3 y3 W
  have c4 := fun W => lnear px py W
  generalize kN k1 % 4 = k at *
  generalize kF k1 = f at *
  generalize kN k2 % 4 = l at *
  generalize kF k2 = g at *
  generalize kN k3 % 4 = m at *
  generalize kF k3 = h at *
  generalize rem30 x1 = X1 at *
  generalize rem30 y1 = Y1 at *
  generalize rem30 x2 = X2 at *
  generalize rem30 y2 = Y2 at *
  generalize rem30 x3 = X3 at *
  generalize rem30 y3 = Y3 at *
  generalize rem30 px = p at *
  generalize rem30 py = q at *
  obtain ⟨P, hP⟩ : ∃ P, dox l g X2 X1 Y1 = P := ⟨_, rfl⟩
  obtain ⟨Q, hQ⟩ : ∃ Q, doy l g Y2 X1 Y1 = Q := ⟨_, rfl⟩
  obtain ⟨R, hR⟩ : ∃ R, dox m h X3 X2 Y2 = R := ⟨_, rfl⟩
  obtain ⟨S, hS⟩ : ∃ S, doy m h Y3 X2 Y2 = S := ⟨_, rfl⟩
  obtain ⟨r, hr⟩ : ∃ r, dox k f X1 p q = r := ⟨_, rfl⟩
  obtain ⟨s, hs⟩ : ∃ s, doy k f Y1 p q = s := ⟨_, rfl⟩
  obtain ⟨A, hA⟩ : ∃ A, -(dox (backK k f) f 0 X1 Y1) = A := ⟨_, rfl⟩
  obtain ⟨B, hB⟩ : ∃ B, -(doy (backK k f) f 0 X1 Y1) = B := ⟨_, rfl⟩
  obtain ⟨C, hC⟩ : ∃ C, -(dox (backK l g) g 0 X2 Y2) = C := ⟨_, rfl⟩
  obtain ⟨D, hD⟩ : ∃ D, -(doy (backK l g) g 0 X2 Y2) = D := ⟨_, rfl⟩
  have hbk := backK_lt hk f
  have hbl := backK_lt hl g
  have hkl := thenK_lt k l g
  have hlm := thenK_lt l m h
  have bP : P.natAbs ≤ 4294967296 := by have := dox_bnd hl g X2 X1 Y1; omega
  have bQ : Q.natAbs ≤ 4294967296 := by have := doy_bnd hl g Y2 X1 Y1; omega
  have bR : R.natAbs ≤ 4294967296 := by have := dox_bnd hm h X3 X2 Y2; omega
  have bS : S.natAbs ≤ 4294967296 := by have := doy_bnd hm h Y3 X2 Y2; omega
  have br : r.natAbs ≤ 4294967296 := by have := dox_bnd hk f X1 p q; omega
  have bs : s.natAbs ≤ 4294967296 := by have := doy_bnd hk f Y1 p q; omega
  have bA : A.natAbs ≤ 4294967296 := by have := dox_bnd hbk f 0 X1 Y1; omega
  have bB : B.natAbs ≤ 4294967296 := by have := doy_bnd hbk f 0 X1 Y1; omega
  have bC : C.natAbs ≤ 4294967296 := by have := dox_bnd hbl g 0 X2 Y2; omega
  have bD : D.natAbs ≤ 4294967296 := by have := doy_bnd hbl g 0 X2 Y2; omega
  have bu := dox_bnd hl g X2 r s
  have bv := doy_bnd hl g Y2 r s
  have bE := dox_bnd hm h X3 P Q
  have bF := doy_bnd hm h Y3 P Q
  have bG := dox_bnd hbk f A C D
  have bH := doy_bnd hbk f B C D
  -- the laws
  obtain ⟨t1, t2⟩ := doxx hk hl f g X1 Y1 X2 Y2 p q
  rw [hP, hr, hs] at t1
  rw [hQ, hr, hs] at t2
  obtain ⟨t3, t4⟩ := doxx hl hm g h X2 Y2 X3 Y3 X1 Y1
  rw [hP, hQ, hR] at t3
  rw [hP, hQ, hS] at t4
  have t5 := thenK_assoc hk hl hm g h
  have t6 : ((f != g) != h) = (f != (g != h)) := by cases f <;> cases g <;> cases h <;> rfl
  obtain ⟨t7, t8⟩ := backxx hk hl f g X1 Y1 X2 Y2
  rw [hP, hQ, hA, hC, hD] at t7
  rw [hP, hQ, hB, hC, hD] at t8
  have t9 := thenK_back hk hl f g
  have t10 : (g != f) = (f != g) := by cases f <;> cases g <;> rfl
  obtain ⟨a, ha⟩ := isoF_M5 k f X1 Y1
  obtain ⟨b, hb⟩ := isoF_M5 l g X2 Y2
  obtain ⟨c, hc⟩ := isoF_M5 m h X3 Y3
  obtain ⟨ab, hab⟩ := isoF_M5 (thenK k l g) (f != g) P Q
  obtain ⟨bc, hbc⟩ := isoF_M5 (thenK l m h) (g != h) R S
  obtain ⟨abc, habc⟩ := isoF_M5 (thenK (thenK k l g) m h) ((f != g) != h) (dox m h X3 P Q) (doy m h Y3 P Q)
  obtain ⟨ra, hra⟩ := isoF_M5 (backK k f) f A B
  obtain ⟨rb, hrb⟩ := isoF_M5 (backK l g) g C D
  obtain ⟨rab, hrab⟩ := isoF_M5 (backK (thenK k l g) (f != g)) (f != g) (-(dox (backK (thenK k l g) (f != g)) (f != g) 0 P Q)) (-(doy (backK (thenK k l g) (f != g)) (f != g) 0 P Q))
  refine ⟨a, b, c, ab, bc, abc, ra, rb, rab, p, q, r, s, dox l g X2 r s, doy l g Y2 r s, ?_, ?_, ?_, c4, ?_, ?_, ?_, ?_, ?_, ?_, ?_, ?_, ?_, ?_, ?_, ?_, ?_⟩
  · rw [← ha]; exact c1
  · rw [← hb]; exact c2
  · rw [← hc]; exact c3
  · intro W; rw [← ha, ← hb, ← hab]
    have z := then_F hk hl f g (x := X1) (y := Y1) (x' := X2) (y' := Y2) (by omega) (by omega) (by omega) (by omega) W
    rw [hP, hQ] at z
    exact z
  · intro W; rw [← hb, ← hc, ← hbc]
    have z := then_F hl hm g h (x := X2) (y := Y2) (x' := X3) (y' := Y3) (by omega) (by omega) (by omega) (by omega) W
    rw [hR, hS] at z
    exact z
  · intro W; rw [← hab, ← hc, ← habc]
    exact then_F hkl hm _ h (x := P) (y := Q) (x' := X3) (y' := Y3) (by omega) (by omega) (by omega) (by omega) W
  · intro W; rw [← ha, ← hbc, ← habc]
    have z := then_F hk hlm f (g != h) (x := X1) (y := Y1) (x' := R) (y' := S) (by omega) (by omega) (by omega) (by omega) W
    rw [← t3, ← t4, ← t5, ← t6] at z
    exact z
  · intro W; rw [← ha]
    have z := at_F hk f (x := X1) (y := Y1) (u := p) (v := q) (by omega) (by omega) (by omega) (by omega) W
    rw [hr, hs] at z
    exact z
  · intro W; rw [← hb]
    exact at_F hl g (x := X2) (y := Y2) (u := r) (v := s) (by omega) (by omega) (by omega) (by omega) W
  · intro W; rw [← hab]
    have z := at_F hkl (f != g) (x := P) (y := Q) (u := p) (v := q) (by omega) (by omega) (by omega) (by omega) W
    rw [← t1, ← t2] at z
    exact z
  · intro W; rw [← ha, ← hra]
    have z := back_F hk f (x := X1) (y := Y1) (by omega) (by omega) W
    rw [hA, hB] at z
    exact z
  · intro W; rw [← hb, ← hrb]
    have z := back_F hl g (x := X2) (y := Y2) (by omega) (by omega) W
    rw [hC, hD] at z
    exact z
  · intro W; rw [← hab, ← hrab]
    exact back_F hkl _ (by omega) (by omega) W
  · intro W; rw [← hrb, ← hra, ← hrab]
    have z := then_F hbl hbk g f (x := C) (y := D) (x' := A) (y' := B) (by omega) (by omega) (by omega) (by omega) W
    rw [← t7, ← t8, ← t9, t10] at z
    exact z
  · intro W; rw [← habc]
    exact same_F (thenK_lt _ _ _) _ (by omega) (by omega) W
  · intro W; rw [← hrab]
    exact same_F (backK_lt hkl _) _ (by rw [t7]; omega) (by rw [t8]; omega) W

set_option maxRecDepth 100000 in
set_option maxHeartbeats 16000000 in
theorem isoGroup_walk (k1 x1 y1 k2 x2 y2 k3 x3 y3 px py : Int) (w : World) :
    Calls Try.prog 12 #[.agg #[.int .i64 k1, .int .i64 x1, .int .i64 y1], .agg #[.int .i64 k2, .int .i64 x2, .int .i64 y2], .agg #[.int .i64 k3, .int .i64 x3, .int .i64 y3], .agg #[.int .i64 px, .int .i64 py]] w fun e w' => e = .returned (.bool true) ∧ Below w.heap.size w w' := by
  obtain ⟨a, b, c, ab, bc, abc, ra, rb, rab, p, q, r, s, u, v, c1, c2, c3, c4, c5, c6, c7, c8, c9, c10, c11, c12, c13, c14, c15, c16, c17⟩ := group_calls k1 x1 y1 k2 x2 y2 k3 x3 y3 px py
  unfold M5.V at *
  have d1 := Lib.hid c1
  have d2 := Lib.hid c2
  have d3 := Lib.hid c3
  have d4 := Lib.hid c4
  have d5 := Lib.hid c5
  have d6 := Lib.hid c6
  have d7 := Lib.hid c7
  have d8 := Lib.hid c8
  have d9 := Lib.hid c9
  have d10 := Lib.hid c10
  have d11 := Lib.hid c11
  have d12 := Lib.hid c12
  have d13 := Lib.hid c13
  have d14 := Lib.hid c14
  have d15 := Lib.hid c15
  have d16 := Lib.hid c16
  have d17 := Lib.hid c17
  clear c1 c2 c3 c4 c5 c6 c7 c8 c9 c10 c11 c12 c13 c14 c15 c16 c17
  have he1 : ∀ W, (binOp .eql 30 (.agg #[.int .i64 u, .int .i64 v]) (.agg #[.int .i64 u, .int .i64 v])).run Try.prog W = .ok (.bool true) W := fun W => by rw [run_eq_pt]; simp
  go_enter Try.func12, Try.ntmps12
  go_wp2_with fail
  refine (alive05 _).mono ?_
  rintro e w1 ⟨rfl, hb⟩
  obtain ⟨hc1, hf1⟩ := bcell hb
  have hs1 : w.heap.size ≤ w1.heap.size := by have := hb.size; (try simp at this); omega
  have hz1_0 : w.heap.size < w1.heap.size := by have := hb.size; (try simp at this); omega
  have hz1_1 : w.heap.size + 1 < w1.heap.size := by have := hb.size; (try simp at this); omega
  have hz1_2 : w.heap.size + 1 + 1 < w1.heap.size := by have := hb.size; (try simp at this); omega
  have hz1_3 : w.heap.size + 1 + 1 + 1 < w1.heap.size := by have := hb.size; (try simp at this); omega
  have hB1 := Lib.hid (below_then (B := w.heap.size) (w := w) (by repeat (first | exact Below.refl _ _ | refine Below.alloc ?_ (by first | omega | (simp; done) | (simp; omega)) _ | refine Below.setCell ?_ (by first | omega | (simp; done) | (simp; omega)) _ | refine Below.drew ?_)) hb (by first | omega | (simp; done) | (simp; omega)))
  clear hb
  go_wp2_with fail
  refine (d1.out _).mono ?_
  rintro e w2 ⟨rfl, hb⟩
  obtain ⟨hc2, hf2⟩ := bcell hb
  have hs2 : w.heap.size ≤ w2.heap.size := by have := hb.size; (try simp at this); omega
  have hz2_0 : w.heap.size < w2.heap.size := by have := hb.size; (try simp at this); omega
  have hz2_1 : w.heap.size + 1 < w2.heap.size := by have := hb.size; (try simp at this); omega
  have hz2_2 : w.heap.size + 1 + 1 < w2.heap.size := by have := hb.size; (try simp at this); omega
  have hz2_3 : w.heap.size + 1 + 1 + 1 < w2.heap.size := by have := hb.size; (try simp at this); omega
  have hB2 := Lib.hid (below_then (B := w.heap.size) (w := w) (by repeat (first | exact Below.refl _ _ | exact hB1.out | refine Below.alloc ?_ (by first | omega | (simp; done) | (simp; omega)) _ | refine Below.setCell ?_ (by first | omega | (simp; done) | (simp; omega)) _ | refine Below.drew ?_)) hb (by first | omega | (simp; done) | (simp; omega)))
  clear hb
  go_wp2_with fail
  refine (d2.out _).mono ?_
  rintro e w3 ⟨rfl, hb⟩
  obtain ⟨hc3, hf3⟩ := bcell hb
  have hs3 : w.heap.size ≤ w3.heap.size := by have := hb.size; (try simp at this); omega
  have hz3_0 : w.heap.size < w3.heap.size := by have := hb.size; (try simp at this); omega
  have hz3_1 : w.heap.size + 1 < w3.heap.size := by have := hb.size; (try simp at this); omega
  have hz3_2 : w.heap.size + 1 + 1 < w3.heap.size := by have := hb.size; (try simp at this); omega
  have hz3_3 : w.heap.size + 1 + 1 + 1 < w3.heap.size := by have := hb.size; (try simp at this); omega
  have hz3_4 : w2.heap.size < w3.heap.size := by have := hb.size; (try simp at this); omega
  have hB3 := Lib.hid (below_then (B := w.heap.size) (w := w) (by repeat (first | exact Below.refl _ _ | exact hB2.out | exact hB1.out | refine Below.alloc ?_ (by first | omega | (simp; done) | (simp; omega)) _ | refine Below.setCell ?_ (by first | omega | (simp; done) | (simp; omega)) _ | refine Below.drew ?_)) hb (by first | omega | (simp; done) | (simp; omega)))
  clear hb
  go_wp2_with fail
  refine (d3.out _).mono ?_
  rintro e w4 ⟨rfl, hb⟩
  obtain ⟨hc4, hf4⟩ := bcell hb
  have hs4 : w.heap.size ≤ w4.heap.size := by have := hb.size; (try simp at this); omega
  have hz4_0 : w.heap.size < w4.heap.size := by have := hb.size; (try simp at this); omega
  have hz4_1 : w.heap.size + 1 < w4.heap.size := by have := hb.size; (try simp at this); omega
  have hz4_2 : w.heap.size + 1 + 1 < w4.heap.size := by have := hb.size; (try simp at this); omega
  have hz4_3 : w.heap.size + 1 + 1 + 1 < w4.heap.size := by have := hb.size; (try simp at this); omega
  have hz4_4 : w2.heap.size < w4.heap.size := by have := hb.size; (try simp at this); omega
  have hz4_5 : w3.heap.size < w4.heap.size := by have := hb.size; (try simp at this); omega
  have hB4 := Lib.hid (below_then (B := w.heap.size) (w := w) (by repeat (first | exact Below.refl _ _ | exact hB3.out | exact hB2.out | exact hB1.out | refine Below.alloc ?_ (by first | omega | (simp; done) | (simp; omega)) _ | refine Below.setCell ?_ (by first | omega | (simp; done) | (simp; omega)) _ | refine Below.drew ?_)) hb (by first | omega | (simp; done) | (simp; omega)))
  clear hb
  go_wp2_with fail
  refine (d4.out _).mono ?_
  rintro e w5 ⟨rfl, hb⟩
  obtain ⟨hc5, hf5⟩ := bcell hb
  have hs5 : w.heap.size ≤ w5.heap.size := by have := hb.size; (try simp at this); omega
  have hz5_0 : w.heap.size < w5.heap.size := by have := hb.size; (try simp at this); omega
  have hz5_1 : w.heap.size + 1 < w5.heap.size := by have := hb.size; (try simp at this); omega
  have hz5_2 : w.heap.size + 1 + 1 < w5.heap.size := by have := hb.size; (try simp at this); omega
  have hz5_3 : w.heap.size + 1 + 1 + 1 < w5.heap.size := by have := hb.size; (try simp at this); omega
  have hz5_4 : w2.heap.size < w5.heap.size := by have := hb.size; (try simp at this); omega
  have hz5_5 : w3.heap.size < w5.heap.size := by have := hb.size; (try simp at this); omega
  have hz5_6 : w4.heap.size < w5.heap.size := by have := hb.size; (try simp at this); omega
  have hB5 := Lib.hid (below_then (B := w.heap.size) (w := w) (by repeat (first | exact Below.refl _ _ | exact hB4.out | exact hB3.out | exact hB2.out | exact hB1.out | refine Below.alloc ?_ (by first | omega | (simp; done) | (simp; omega)) _ | refine Below.setCell ?_ (by first | omega | (simp; done) | (simp; omega)) _ | refine Below.drew ?_)) hb (by first | omega | (simp; done) | (simp; omega)))
  clear hb
  go_wp2_with fail
  refine (d5.out _).mono ?_
  rintro e w6 ⟨rfl, hb⟩
  obtain ⟨hc6, hf6⟩ := bcell hb
  have hs6 : w.heap.size ≤ w6.heap.size := by have := hb.size; (try simp at this); omega
  have hz6_0 : w.heap.size < w6.heap.size := by have := hb.size; (try simp at this); omega
  have hz6_1 : w.heap.size + 1 < w6.heap.size := by have := hb.size; (try simp at this); omega
  have hz6_2 : w.heap.size + 1 + 1 < w6.heap.size := by have := hb.size; (try simp at this); omega
  have hz6_3 : w.heap.size + 1 + 1 + 1 < w6.heap.size := by have := hb.size; (try simp at this); omega
  have hz6_4 : w2.heap.size < w6.heap.size := by have := hb.size; (try simp at this); omega
  have hz6_5 : w3.heap.size < w6.heap.size := by have := hb.size; (try simp at this); omega
  have hz6_6 : w4.heap.size < w6.heap.size := by have := hb.size; (try simp at this); omega
  have hz6_7 : w5.heap.size < w6.heap.size := by have := hb.size; (try simp at this); omega
  have hB6 := Lib.hid (below_then (B := w.heap.size) (w := w) (by repeat (first | exact Below.refl _ _ | exact hB5.out | exact hB4.out | exact hB3.out | exact hB2.out | exact hB1.out | refine Below.alloc ?_ (by first | omega | (simp; done) | (simp; omega)) _ | refine Below.setCell ?_ (by first | omega | (simp; done) | (simp; omega)) _ | refine Below.drew ?_)) hb (by first | omega | (simp; done) | (simp; omega)))
  clear hb
  go_wp2_with fail
  refine (d6.out _).mono ?_
  rintro e w7 ⟨rfl, hb⟩
  obtain ⟨hc7, hf7⟩ := bcell hb
  have hs7 : w.heap.size ≤ w7.heap.size := by have := hb.size; (try simp at this); omega
  have hz7_0 : w.heap.size < w7.heap.size := by have := hb.size; (try simp at this); omega
  have hz7_1 : w.heap.size + 1 < w7.heap.size := by have := hb.size; (try simp at this); omega
  have hz7_2 : w.heap.size + 1 + 1 < w7.heap.size := by have := hb.size; (try simp at this); omega
  have hz7_3 : w.heap.size + 1 + 1 + 1 < w7.heap.size := by have := hb.size; (try simp at this); omega
  have hz7_4 : w2.heap.size < w7.heap.size := by have := hb.size; (try simp at this); omega
  have hz7_5 : w3.heap.size < w7.heap.size := by have := hb.size; (try simp at this); omega
  have hz7_6 : w4.heap.size < w7.heap.size := by have := hb.size; (try simp at this); omega
  have hz7_7 : w5.heap.size < w7.heap.size := by have := hb.size; (try simp at this); omega
  have hz7_8 : w6.heap.size < w7.heap.size := by have := hb.size; (try simp at this); omega
  have hB7 := Lib.hid (below_then (B := w.heap.size) (w := w) (by repeat (first | exact Below.refl _ _ | exact hB6.out | exact hB5.out | exact hB4.out | exact hB3.out | exact hB2.out | exact hB1.out | refine Below.alloc ?_ (by first | omega | (simp; done) | (simp; omega)) _ | refine Below.setCell ?_ (by first | omega | (simp; done) | (simp; omega)) _ | refine Below.drew ?_)) hb (by first | omega | (simp; done) | (simp; omega)))
  clear hb
  go_wp2_with fail
  refine (d7.out _).mono ?_
  rintro e w8 ⟨rfl, hb⟩
  obtain ⟨hc8, hf8⟩ := bcell hb
  have hs8 : w.heap.size ≤ w8.heap.size := by have := hb.size; (try simp at this); omega
  have hz8_0 : w.heap.size < w8.heap.size := by have := hb.size; (try simp at this); omega
  have hz8_1 : w.heap.size + 1 < w8.heap.size := by have := hb.size; (try simp at this); omega
  have hz8_2 : w.heap.size + 1 + 1 < w8.heap.size := by have := hb.size; (try simp at this); omega
  have hz8_3 : w.heap.size + 1 + 1 + 1 < w8.heap.size := by have := hb.size; (try simp at this); omega
  have hz8_4 : w2.heap.size < w8.heap.size := by have := hb.size; (try simp at this); omega
  have hz8_5 : w3.heap.size < w8.heap.size := by have := hb.size; (try simp at this); omega
  have hz8_6 : w4.heap.size < w8.heap.size := by have := hb.size; (try simp at this); omega
  have hz8_7 : w5.heap.size < w8.heap.size := by have := hb.size; (try simp at this); omega
  have hz8_8 : w6.heap.size < w8.heap.size := by have := hb.size; (try simp at this); omega
  have hz8_9 : w7.heap.size < w8.heap.size := by have := hb.size; (try simp at this); omega
  have hB8 := Lib.hid (below_then (B := w.heap.size) (w := w) (by repeat (first | exact Below.refl _ _ | exact hB7.out | exact hB6.out | exact hB5.out | exact hB4.out | exact hB3.out | exact hB2.out | exact hB1.out | refine Below.alloc ?_ (by first | omega | (simp; done) | (simp; omega)) _ | refine Below.setCell ?_ (by first | omega | (simp; done) | (simp; omega)) _ | refine Below.drew ?_)) hb (by first | omega | (simp; done) | (simp; omega)))
  clear hb
  go_wp2_with fail
  refine (d8.out _).mono ?_
  rintro e w9 ⟨rfl, hb⟩
  obtain ⟨hc9, hf9⟩ := bcell hb
  have hs9 : w.heap.size ≤ w9.heap.size := by have := hb.size; (try simp at this); omega
  have hz9_0 : w.heap.size < w9.heap.size := by have := hb.size; (try simp at this); omega
  have hz9_1 : w.heap.size + 1 < w9.heap.size := by have := hb.size; (try simp at this); omega
  have hz9_2 : w.heap.size + 1 + 1 < w9.heap.size := by have := hb.size; (try simp at this); omega
  have hz9_3 : w.heap.size + 1 + 1 + 1 < w9.heap.size := by have := hb.size; (try simp at this); omega
  have hz9_4 : w2.heap.size < w9.heap.size := by have := hb.size; (try simp at this); omega
  have hz9_5 : w3.heap.size < w9.heap.size := by have := hb.size; (try simp at this); omega
  have hz9_6 : w4.heap.size < w9.heap.size := by have := hb.size; (try simp at this); omega
  have hz9_7 : w5.heap.size < w9.heap.size := by have := hb.size; (try simp at this); omega
  have hz9_8 : w6.heap.size < w9.heap.size := by have := hb.size; (try simp at this); omega
  have hz9_9 : w7.heap.size < w9.heap.size := by have := hb.size; (try simp at this); omega
  have hz9_10 : w8.heap.size < w9.heap.size := by have := hb.size; (try simp at this); omega
  have hB9 := Lib.hid (below_then (B := w.heap.size) (w := w) (by repeat (first | exact Below.refl _ _ | exact hB8.out | exact hB7.out | exact hB6.out | exact hB5.out | exact hB4.out | exact hB3.out | exact hB2.out | exact hB1.out | refine Below.alloc ?_ (by first | omega | (simp; done) | (simp; omega)) _ | refine Below.setCell ?_ (by first | omega | (simp; done) | (simp; omega)) _ | refine Below.drew ?_)) hb (by first | omega | (simp; done) | (simp; omega)))
  clear hb
  go_wp2_with fail
  refine (d9.out _).mono ?_
  rintro e w10 ⟨rfl, hb⟩
  obtain ⟨hc10, hf10⟩ := bcell hb
  have hs10 : w.heap.size ≤ w10.heap.size := by have := hb.size; (try simp at this); omega
  have hz10_0 : w.heap.size < w10.heap.size := by have := hb.size; (try simp at this); omega
  have hz10_1 : w.heap.size + 1 < w10.heap.size := by have := hb.size; (try simp at this); omega
  have hz10_2 : w.heap.size + 1 + 1 < w10.heap.size := by have := hb.size; (try simp at this); omega
  have hz10_3 : w.heap.size + 1 + 1 + 1 < w10.heap.size := by have := hb.size; (try simp at this); omega
  have hz10_4 : w2.heap.size < w10.heap.size := by have := hb.size; (try simp at this); omega
  have hz10_5 : w3.heap.size < w10.heap.size := by have := hb.size; (try simp at this); omega
  have hz10_6 : w4.heap.size < w10.heap.size := by have := hb.size; (try simp at this); omega
  have hz10_7 : w5.heap.size < w10.heap.size := by have := hb.size; (try simp at this); omega
  have hz10_8 : w6.heap.size < w10.heap.size := by have := hb.size; (try simp at this); omega
  have hz10_9 : w7.heap.size < w10.heap.size := by have := hb.size; (try simp at this); omega
  have hz10_10 : w8.heap.size < w10.heap.size := by have := hb.size; (try simp at this); omega
  have hz10_11 : w9.heap.size < w10.heap.size := by have := hb.size; (try simp at this); omega
  have hB10 := Lib.hid (below_then (B := w.heap.size) (w := w) (by repeat (first | exact Below.refl _ _ | exact hB9.out | exact hB8.out | exact hB7.out | exact hB6.out | exact hB5.out | exact hB4.out | exact hB3.out | exact hB2.out | exact hB1.out | refine Below.alloc ?_ (by first | omega | (simp; done) | (simp; omega)) _ | refine Below.setCell ?_ (by first | omega | (simp; done) | (simp; omega)) _ | refine Below.drew ?_)) hb (by first | omega | (simp; done) | (simp; omega)))
  clear hb
  go_wp2_with fail
  refine (d10.out _).mono ?_
  rintro e w11 ⟨rfl, hb⟩
  obtain ⟨hc11, hf11⟩ := bcell hb
  have hs11 : w.heap.size ≤ w11.heap.size := by have := hb.size; (try simp at this); omega
  have hz11_0 : w.heap.size < w11.heap.size := by have := hb.size; (try simp at this); omega
  have hz11_1 : w.heap.size + 1 < w11.heap.size := by have := hb.size; (try simp at this); omega
  have hz11_2 : w.heap.size + 1 + 1 < w11.heap.size := by have := hb.size; (try simp at this); omega
  have hz11_3 : w.heap.size + 1 + 1 + 1 < w11.heap.size := by have := hb.size; (try simp at this); omega
  have hz11_4 : w2.heap.size < w11.heap.size := by have := hb.size; (try simp at this); omega
  have hz11_5 : w3.heap.size < w11.heap.size := by have := hb.size; (try simp at this); omega
  have hz11_6 : w4.heap.size < w11.heap.size := by have := hb.size; (try simp at this); omega
  have hz11_7 : w5.heap.size < w11.heap.size := by have := hb.size; (try simp at this); omega
  have hz11_8 : w6.heap.size < w11.heap.size := by have := hb.size; (try simp at this); omega
  have hz11_9 : w7.heap.size < w11.heap.size := by have := hb.size; (try simp at this); omega
  have hz11_10 : w8.heap.size < w11.heap.size := by have := hb.size; (try simp at this); omega
  have hz11_11 : w9.heap.size < w11.heap.size := by have := hb.size; (try simp at this); omega
  have hz11_12 : w10.heap.size < w11.heap.size := by have := hb.size; (try simp at this); omega
  have hB11 := Lib.hid (below_then (B := w.heap.size) (w := w) (by repeat (first | exact Below.refl _ _ | exact hB10.out | exact hB9.out | exact hB8.out | exact hB7.out | exact hB6.out | exact hB5.out | exact hB4.out | exact hB3.out | exact hB2.out | exact hB1.out | refine Below.alloc ?_ (by first | omega | (simp; done) | (simp; omega)) _ | refine Below.setCell ?_ (by first | omega | (simp; done) | (simp; omega)) _ | refine Below.drew ?_)) hb (by first | omega | (simp; done) | (simp; omega)))
  clear hb
  go_wp2_with fail
  refine (d11.out _).mono ?_
  rintro e w12 ⟨rfl, hb⟩
  obtain ⟨hc12, hf12⟩ := bcell hb
  have hs12 : w.heap.size ≤ w12.heap.size := by have := hb.size; (try simp at this); omega
  have hz12_0 : w.heap.size < w12.heap.size := by have := hb.size; (try simp at this); omega
  have hz12_1 : w.heap.size + 1 < w12.heap.size := by have := hb.size; (try simp at this); omega
  have hz12_2 : w.heap.size + 1 + 1 < w12.heap.size := by have := hb.size; (try simp at this); omega
  have hz12_3 : w.heap.size + 1 + 1 + 1 < w12.heap.size := by have := hb.size; (try simp at this); omega
  have hz12_4 : w2.heap.size < w12.heap.size := by have := hb.size; (try simp at this); omega
  have hz12_5 : w3.heap.size < w12.heap.size := by have := hb.size; (try simp at this); omega
  have hz12_6 : w4.heap.size < w12.heap.size := by have := hb.size; (try simp at this); omega
  have hz12_7 : w5.heap.size < w12.heap.size := by have := hb.size; (try simp at this); omega
  have hz12_8 : w6.heap.size < w12.heap.size := by have := hb.size; (try simp at this); omega
  have hz12_9 : w7.heap.size < w12.heap.size := by have := hb.size; (try simp at this); omega
  have hz12_10 : w8.heap.size < w12.heap.size := by have := hb.size; (try simp at this); omega
  have hz12_11 : w9.heap.size < w12.heap.size := by have := hb.size; (try simp at this); omega
  have hz12_12 : w10.heap.size < w12.heap.size := by have := hb.size; (try simp at this); omega
  have hz12_13 : w11.heap.size < w12.heap.size := by have := hb.size; (try simp at this); omega
  have hB12 := Lib.hid (below_then (B := w.heap.size) (w := w) (by repeat (first | exact Below.refl _ _ | exact hB11.out | exact hB10.out | exact hB9.out | exact hB8.out | exact hB7.out | exact hB6.out | exact hB5.out | exact hB4.out | exact hB3.out | exact hB2.out | exact hB1.out | refine Below.alloc ?_ (by first | omega | (simp; done) | (simp; omega)) _ | refine Below.setCell ?_ (by first | omega | (simp; done) | (simp; omega)) _ | refine Below.drew ?_)) hb (by first | omega | (simp; done) | (simp; omega)))
  clear hb
  go_wp2_with fail
  refine (d12.out _).mono ?_
  rintro e w13 ⟨rfl, hb⟩
  obtain ⟨hc13, hf13⟩ := bcell hb
  have hs13 : w.heap.size ≤ w13.heap.size := by have := hb.size; (try simp at this); omega
  have hz13_0 : w.heap.size < w13.heap.size := by have := hb.size; (try simp at this); omega
  have hz13_1 : w.heap.size + 1 < w13.heap.size := by have := hb.size; (try simp at this); omega
  have hz13_2 : w.heap.size + 1 + 1 < w13.heap.size := by have := hb.size; (try simp at this); omega
  have hz13_3 : w.heap.size + 1 + 1 + 1 < w13.heap.size := by have := hb.size; (try simp at this); omega
  have hz13_4 : w2.heap.size < w13.heap.size := by have := hb.size; (try simp at this); omega
  have hz13_5 : w3.heap.size < w13.heap.size := by have := hb.size; (try simp at this); omega
  have hz13_6 : w4.heap.size < w13.heap.size := by have := hb.size; (try simp at this); omega
  have hz13_7 : w5.heap.size < w13.heap.size := by have := hb.size; (try simp at this); omega
  have hz13_8 : w6.heap.size < w13.heap.size := by have := hb.size; (try simp at this); omega
  have hz13_9 : w7.heap.size < w13.heap.size := by have := hb.size; (try simp at this); omega
  have hz13_10 : w8.heap.size < w13.heap.size := by have := hb.size; (try simp at this); omega
  have hz13_11 : w9.heap.size < w13.heap.size := by have := hb.size; (try simp at this); omega
  have hz13_12 : w10.heap.size < w13.heap.size := by have := hb.size; (try simp at this); omega
  have hz13_13 : w11.heap.size < w13.heap.size := by have := hb.size; (try simp at this); omega
  have hz13_14 : w12.heap.size < w13.heap.size := by have := hb.size; (try simp at this); omega
  have hB13 := Lib.hid (below_then (B := w.heap.size) (w := w) (by repeat (first | exact Below.refl _ _ | exact hB12.out | exact hB11.out | exact hB10.out | exact hB9.out | exact hB8.out | exact hB7.out | exact hB6.out | exact hB5.out | exact hB4.out | exact hB3.out | exact hB2.out | exact hB1.out | refine Below.alloc ?_ (by first | omega | (simp; done) | (simp; omega)) _ | refine Below.setCell ?_ (by first | omega | (simp; done) | (simp; omega)) _ | refine Below.drew ?_)) hb (by first | omega | (simp; done) | (simp; omega)))
  clear hb
  go_wp2_with fail
  refine (d13.out _).mono ?_
  rintro e w14 ⟨rfl, hb⟩
  obtain ⟨hc14, hf14⟩ := bcell hb
  have hs14 : w.heap.size ≤ w14.heap.size := by have := hb.size; (try simp at this); omega
  have hz14_0 : w.heap.size < w14.heap.size := by have := hb.size; (try simp at this); omega
  have hz14_1 : w.heap.size + 1 < w14.heap.size := by have := hb.size; (try simp at this); omega
  have hz14_2 : w.heap.size + 1 + 1 < w14.heap.size := by have := hb.size; (try simp at this); omega
  have hz14_3 : w.heap.size + 1 + 1 + 1 < w14.heap.size := by have := hb.size; (try simp at this); omega
  have hz14_4 : w2.heap.size < w14.heap.size := by have := hb.size; (try simp at this); omega
  have hz14_5 : w3.heap.size < w14.heap.size := by have := hb.size; (try simp at this); omega
  have hz14_6 : w4.heap.size < w14.heap.size := by have := hb.size; (try simp at this); omega
  have hz14_7 : w5.heap.size < w14.heap.size := by have := hb.size; (try simp at this); omega
  have hz14_8 : w6.heap.size < w14.heap.size := by have := hb.size; (try simp at this); omega
  have hz14_9 : w7.heap.size < w14.heap.size := by have := hb.size; (try simp at this); omega
  have hz14_10 : w8.heap.size < w14.heap.size := by have := hb.size; (try simp at this); omega
  have hz14_11 : w9.heap.size < w14.heap.size := by have := hb.size; (try simp at this); omega
  have hz14_12 : w10.heap.size < w14.heap.size := by have := hb.size; (try simp at this); omega
  have hz14_13 : w11.heap.size < w14.heap.size := by have := hb.size; (try simp at this); omega
  have hz14_14 : w12.heap.size < w14.heap.size := by have := hb.size; (try simp at this); omega
  have hz14_15 : w13.heap.size < w14.heap.size := by have := hb.size; (try simp at this); omega
  have hB14 := Lib.hid (below_then (B := w.heap.size) (w := w) (by repeat (first | exact Below.refl _ _ | exact hB13.out | exact hB12.out | exact hB11.out | exact hB10.out | exact hB9.out | exact hB8.out | exact hB7.out | exact hB6.out | exact hB5.out | exact hB4.out | exact hB3.out | exact hB2.out | exact hB1.out | refine Below.alloc ?_ (by first | omega | (simp; done) | (simp; omega)) _ | refine Below.setCell ?_ (by first | omega | (simp; done) | (simp; omega)) _ | refine Below.drew ?_)) hb (by first | omega | (simp; done) | (simp; omega)))
  clear hb
  go_wp2_with fail
  refine (d14.out _).mono ?_
  rintro e w15 ⟨rfl, hb⟩
  obtain ⟨hc15, hf15⟩ := bcell hb
  have hs15 : w.heap.size ≤ w15.heap.size := by have := hb.size; (try simp at this); omega
  have hz15_0 : w.heap.size < w15.heap.size := by have := hb.size; (try simp at this); omega
  have hz15_1 : w.heap.size + 1 < w15.heap.size := by have := hb.size; (try simp at this); omega
  have hz15_2 : w.heap.size + 1 + 1 < w15.heap.size := by have := hb.size; (try simp at this); omega
  have hz15_3 : w.heap.size + 1 + 1 + 1 < w15.heap.size := by have := hb.size; (try simp at this); omega
  have hz15_4 : w2.heap.size < w15.heap.size := by have := hb.size; (try simp at this); omega
  have hz15_5 : w3.heap.size < w15.heap.size := by have := hb.size; (try simp at this); omega
  have hz15_6 : w4.heap.size < w15.heap.size := by have := hb.size; (try simp at this); omega
  have hz15_7 : w5.heap.size < w15.heap.size := by have := hb.size; (try simp at this); omega
  have hz15_8 : w6.heap.size < w15.heap.size := by have := hb.size; (try simp at this); omega
  have hz15_9 : w7.heap.size < w15.heap.size := by have := hb.size; (try simp at this); omega
  have hz15_10 : w8.heap.size < w15.heap.size := by have := hb.size; (try simp at this); omega
  have hz15_11 : w9.heap.size < w15.heap.size := by have := hb.size; (try simp at this); omega
  have hz15_12 : w10.heap.size < w15.heap.size := by have := hb.size; (try simp at this); omega
  have hz15_13 : w11.heap.size < w15.heap.size := by have := hb.size; (try simp at this); omega
  have hz15_14 : w12.heap.size < w15.heap.size := by have := hb.size; (try simp at this); omega
  have hz15_15 : w13.heap.size < w15.heap.size := by have := hb.size; (try simp at this); omega
  have hz15_16 : w14.heap.size < w15.heap.size := by have := hb.size; (try simp at this); omega
  have hB15 := Lib.hid (below_then (B := w.heap.size) (w := w) (by repeat (first | exact Below.refl _ _ | exact hB14.out | exact hB13.out | exact hB12.out | exact hB11.out | exact hB10.out | exact hB9.out | exact hB8.out | exact hB7.out | exact hB6.out | exact hB5.out | exact hB4.out | exact hB3.out | exact hB2.out | exact hB1.out | refine Below.alloc ?_ (by first | omega | (simp; done) | (simp; omega)) _ | refine Below.setCell ?_ (by first | omega | (simp; done) | (simp; omega)) _ | refine Below.drew ?_)) hb (by first | omega | (simp; done) | (simp; omega)))
  clear hb
  go_wp2_with fail
  refine (d15.out _).mono ?_
  rintro e w16 ⟨rfl, hb⟩
  obtain ⟨hc16, hf16⟩ := bcell hb
  have hs16 : w.heap.size ≤ w16.heap.size := by have := hb.size; (try simp at this); omega
  have hz16_0 : w.heap.size < w16.heap.size := by have := hb.size; (try simp at this); omega
  have hz16_1 : w.heap.size + 1 < w16.heap.size := by have := hb.size; (try simp at this); omega
  have hz16_2 : w.heap.size + 1 + 1 < w16.heap.size := by have := hb.size; (try simp at this); omega
  have hz16_3 : w.heap.size + 1 + 1 + 1 < w16.heap.size := by have := hb.size; (try simp at this); omega
  have hz16_4 : w2.heap.size < w16.heap.size := by have := hb.size; (try simp at this); omega
  have hz16_5 : w3.heap.size < w16.heap.size := by have := hb.size; (try simp at this); omega
  have hz16_6 : w4.heap.size < w16.heap.size := by have := hb.size; (try simp at this); omega
  have hz16_7 : w5.heap.size < w16.heap.size := by have := hb.size; (try simp at this); omega
  have hz16_8 : w6.heap.size < w16.heap.size := by have := hb.size; (try simp at this); omega
  have hz16_9 : w7.heap.size < w16.heap.size := by have := hb.size; (try simp at this); omega
  have hz16_10 : w8.heap.size < w16.heap.size := by have := hb.size; (try simp at this); omega
  have hz16_11 : w9.heap.size < w16.heap.size := by have := hb.size; (try simp at this); omega
  have hz16_12 : w10.heap.size < w16.heap.size := by have := hb.size; (try simp at this); omega
  have hz16_13 : w11.heap.size < w16.heap.size := by have := hb.size; (try simp at this); omega
  have hz16_14 : w12.heap.size < w16.heap.size := by have := hb.size; (try simp at this); omega
  have hz16_15 : w13.heap.size < w16.heap.size := by have := hb.size; (try simp at this); omega
  have hz16_16 : w14.heap.size < w16.heap.size := by have := hb.size; (try simp at this); omega
  have hz16_17 : w15.heap.size < w16.heap.size := by have := hb.size; (try simp at this); omega
  have hB16 := Lib.hid (below_then (B := w.heap.size) (w := w) (by repeat (first | exact Below.refl _ _ | exact hB15.out | exact hB14.out | exact hB13.out | exact hB12.out | exact hB11.out | exact hB10.out | exact hB9.out | exact hB8.out | exact hB7.out | exact hB6.out | exact hB5.out | exact hB4.out | exact hB3.out | exact hB2.out | exact hB1.out | refine Below.alloc ?_ (by first | omega | (simp; done) | (simp; omega)) _ | refine Below.setCell ?_ (by first | omega | (simp; done) | (simp; omega)) _ | refine Below.drew ?_)) hb (by first | omega | (simp; done) | (simp; omega)))
  clear hb
  go_wp2_with fail
  refine (d16.out _).mono ?_
  rintro e w17 ⟨rfl, hb⟩
  obtain ⟨hc17, hf17⟩ := bcell hb
  have hs17 : w.heap.size ≤ w17.heap.size := by have := hb.size; (try simp at this); omega
  have hz17_0 : w.heap.size < w17.heap.size := by have := hb.size; (try simp at this); omega
  have hz17_1 : w.heap.size + 1 < w17.heap.size := by have := hb.size; (try simp at this); omega
  have hz17_2 : w.heap.size + 1 + 1 < w17.heap.size := by have := hb.size; (try simp at this); omega
  have hz17_3 : w.heap.size + 1 + 1 + 1 < w17.heap.size := by have := hb.size; (try simp at this); omega
  have hz17_4 : w2.heap.size < w17.heap.size := by have := hb.size; (try simp at this); omega
  have hz17_5 : w3.heap.size < w17.heap.size := by have := hb.size; (try simp at this); omega
  have hz17_6 : w4.heap.size < w17.heap.size := by have := hb.size; (try simp at this); omega
  have hz17_7 : w5.heap.size < w17.heap.size := by have := hb.size; (try simp at this); omega
  have hz17_8 : w6.heap.size < w17.heap.size := by have := hb.size; (try simp at this); omega
  have hz17_9 : w7.heap.size < w17.heap.size := by have := hb.size; (try simp at this); omega
  have hz17_10 : w8.heap.size < w17.heap.size := by have := hb.size; (try simp at this); omega
  have hz17_11 : w9.heap.size < w17.heap.size := by have := hb.size; (try simp at this); omega
  have hz17_12 : w10.heap.size < w17.heap.size := by have := hb.size; (try simp at this); omega
  have hz17_13 : w11.heap.size < w17.heap.size := by have := hb.size; (try simp at this); omega
  have hz17_14 : w12.heap.size < w17.heap.size := by have := hb.size; (try simp at this); omega
  have hz17_15 : w13.heap.size < w17.heap.size := by have := hb.size; (try simp at this); omega
  have hz17_16 : w14.heap.size < w17.heap.size := by have := hb.size; (try simp at this); omega
  have hz17_17 : w15.heap.size < w17.heap.size := by have := hb.size; (try simp at this); omega
  have hz17_18 : w16.heap.size < w17.heap.size := by have := hb.size; (try simp at this); omega
  have hB17 := Lib.hid (below_then (B := w.heap.size) (w := w) (by repeat (first | exact Below.refl _ _ | exact hB16.out | exact hB15.out | exact hB14.out | exact hB13.out | exact hB12.out | exact hB11.out | exact hB10.out | exact hB9.out | exact hB8.out | exact hB7.out | exact hB6.out | exact hB5.out | exact hB4.out | exact hB3.out | exact hB2.out | exact hB1.out | refine Below.alloc ?_ (by first | omega | (simp; done) | (simp; omega)) _ | refine Below.setCell ?_ (by first | omega | (simp; done) | (simp; omega)) _ | refine Below.drew ?_)) hb (by first | omega | (simp; done) | (simp; omega)))
  clear hb
  go_wp2_with fail
  refine (d17.out _).mono ?_
  rintro e w18 ⟨rfl, hb⟩
  obtain ⟨hc18, hf18⟩ := bcell hb
  have hs18 : w.heap.size ≤ w18.heap.size := by have := hb.size; (try simp at this); omega
  have hz18_0 : w.heap.size < w18.heap.size := by have := hb.size; (try simp at this); omega
  have hz18_1 : w.heap.size + 1 < w18.heap.size := by have := hb.size; (try simp at this); omega
  have hz18_2 : w.heap.size + 1 + 1 < w18.heap.size := by have := hb.size; (try simp at this); omega
  have hz18_3 : w.heap.size + 1 + 1 + 1 < w18.heap.size := by have := hb.size; (try simp at this); omega
  have hz18_4 : w2.heap.size < w18.heap.size := by have := hb.size; (try simp at this); omega
  have hz18_5 : w3.heap.size < w18.heap.size := by have := hb.size; (try simp at this); omega
  have hz18_6 : w4.heap.size < w18.heap.size := by have := hb.size; (try simp at this); omega
  have hz18_7 : w5.heap.size < w18.heap.size := by have := hb.size; (try simp at this); omega
  have hz18_8 : w6.heap.size < w18.heap.size := by have := hb.size; (try simp at this); omega
  have hz18_9 : w7.heap.size < w18.heap.size := by have := hb.size; (try simp at this); omega
  have hz18_10 : w8.heap.size < w18.heap.size := by have := hb.size; (try simp at this); omega
  have hz18_11 : w9.heap.size < w18.heap.size := by have := hb.size; (try simp at this); omega
  have hz18_12 : w10.heap.size < w18.heap.size := by have := hb.size; (try simp at this); omega
  have hz18_13 : w11.heap.size < w18.heap.size := by have := hb.size; (try simp at this); omega
  have hz18_14 : w12.heap.size < w18.heap.size := by have := hb.size; (try simp at this); omega
  have hz18_15 : w13.heap.size < w18.heap.size := by have := hb.size; (try simp at this); omega
  have hz18_16 : w14.heap.size < w18.heap.size := by have := hb.size; (try simp at this); omega
  have hz18_17 : w15.heap.size < w18.heap.size := by have := hb.size; (try simp at this); omega
  have hz18_18 : w16.heap.size < w18.heap.size := by have := hb.size; (try simp at this); omega
  have hB18 := Lib.hid (below_then (B := w.heap.size) (w := w) (by repeat (first | exact Below.refl _ _ | exact hB17.out | exact hB16.out | exact hB15.out | exact hB14.out | exact hB13.out | exact hB12.out | exact hB11.out | exact hB10.out | exact hB9.out | exact hB8.out | exact hB7.out | exact hB6.out | exact hB5.out | exact hB4.out | exact hB3.out | exact hB2.out | exact hB1.out | refine Below.alloc ?_ (by first | omega | (simp; done) | (simp; omega)) _ | refine Below.setCell ?_ (by first | omega | (simp; done) | (simp; omega)) _ | refine Below.drew ?_)) hb (by first | omega | (simp; done) | (simp; omega)))
  clear hb
  go_wp2
  go_ret
  exact ⟨rfl, by repeat (first | exact Below.refl _ _ | exact hB18.out | exact hB17.out | exact hB16.out | exact hB15.out | exact hB14.out | exact hB13.out | exact hB12.out | exact hB11.out | exact hB10.out | exact hB9.out | exact hB8.out | exact hB7.out | exact hB6.out | exact hB5.out | exact hB4.out | exact hB3.out | exact hB2.out | exact hB1.out | refine Below.alloc ?_ (by first | omega | (simp; done) | (simp; omega)) _ | refine Below.setCell ?_ (by first | omega | (simp; done) | (simp; omega)) _ | refine Below.drew ?_)⟩
end Go.Proofs.Ytjomgjlicfoehaa
