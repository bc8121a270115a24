import Derived.Test.YtjomgjlicfoehaaIsoQ
import Derived.Test.YtjomgjlicfoehaaIsoM
import Derived.Deep.RegionHeld3
import Derived.Deep.QuietTactic
import Derived.BigQuiet
import Derived.IntWalk
namespace Go.Proofs.Ytjomgjlicfoehaa
open Go.RowKit Flt
attribute [local go_sem] run_store_float run_store_complex unary_neg_float unary_neg_complex
set_option linter.unusedSimpArgs false
set_option linter.unusedVariables false

/-- A map's five numbers. -/
structure M5 where
  a : Nat
  b : Nat
  f : Bool
  c : Nat
  d : Nat
def M5.V (m : M5) : Value := isoV m.a m.b m.f m.c m.d
theorem isoF_M5 (k : Nat) (f : Bool) (x y : Int) : ∃ m : M5, isoF k f x y = m.V := ⟨⟨_, _, _, _, _⟩, rfl⟩

theorem dox_bnd {k : Nat} (hk : k < 4) (f : Bool) (x u v : Int) : (dox k f x u v).natAbs ≤ u.natAbs + v.natAbs + x.natAbs := by
  unfold dox fl
  rcases tv_cases hk with ⟨h1, h2⟩ | ⟨h1, h2⟩ | ⟨h1, h2⟩ | ⟨h1, h2⟩ <;> rw [h1, h2] <;> cases f <;> simp <;> omega
theorem doy_bnd {k : Nat} (hk : k < 4) (f : Bool) (x u v : Int) : (doy k f x u v).natAbs ≤ u.natAbs + v.natAbs + x.natAbs := by
  unfold doy fl
  rcases tv_cases hk with ⟨h1, h2⟩ | ⟨h1, h2⟩ | ⟨h1, h2⟩ | ⟨h1, h2⟩ <;> rw [h1, h2] <;> cases f <;> simp <;> omega

theorem thenK_assoc' : ∀ (k l m : Fin 4) (g h : Bool), thenK (thenK k l g) m h = thenK k (thenK l m h) (g != h) := by decide +kernel
theorem thenK_assoc {k l m : Nat} (hk : k < 4) (hl : l < 4) (hm : m < 4) (g h : Bool) : thenK (thenK k l g) m h = thenK k (thenK l m h) (g != h) := thenK_assoc' ⟨k, hk⟩ ⟨l, hl⟩ ⟨m, hm⟩ g h
theorem thenK_back' : ∀ (k l : Fin 4) (f g : Bool), backK (thenK k l g) (f != g) = thenK (backK l g) (backK k f) f := by decide +kernel
theorem thenK_back {k l : Nat} (hk : k < 4) (hl : l < 4) (f g : Bool) : backK (thenK k l g) (f != g) = thenK (backK l g) (backK k f) f := thenK_back' ⟨k, hk⟩ ⟨l, hl⟩ f g
theorem thenK_zero' : ∀ (k : Fin 4) (f : Bool), thenK k (backK k f) f = 0 ∧ thenK (backK k f) k f = 0 := by decide +kernel
theorem thenK_zero {k : Nat} (hk : k < 4) (f : Bool) : thenK k (backK k f) f = 0 ∧ thenK (backK k f) k f = 0 := thenK_zero' ⟨k, hk⟩ f

theorem doxx {k l : Nat} (hk : k < 4) (hl : l < 4) (f g : Bool) (x y x' y' u v : Int) :
    dox l g x' (dox k f x u v) (doy k f y u v) = dox (thenK k l g) (f != g) (dox l g x' x y) u v ∧
    doy l g y' (dox k f x u v) (doy k f y u v) = doy (thenK k l g) (f != g) (doy l g y' x y) u v := by
  have hk' : k = 0 ∨ k = 1 ∨ k = 2 ∨ k = 3 := by omega
  have hl' : l = 0 ∨ l = 1 ∨ l = 2 ∨ l = 3 := by omega
  rcases hk' with rfl | rfl | rfl | rfl <;> rcases hl' with rfl | rfl | rfl | rfl <;> cases f <;> cases g <;> simp [dox, doy, fl, thenK, tvx, tvy] <;> omega

theorem backxx {k l : Nat} (hk : k < 4) (hl : l < 4) (f g : Bool) (x y x' y' : Int) :
    -(dox (backK (thenK k l g) (f != g)) (f != g) 0 (dox l g x' x y) (doy l g y' x y)) = dox (backK k f) f (-(dox (backK k f) f 0 x y)) (-(dox (backK l g) g 0 x' y')) (-(doy (backK l g) g 0 x' y')) ∧
    -(doy (backK (thenK k l g) (f != g)) (f != g) 0 (dox l g x' x y) (doy l g y' x y)) = doy (backK k f) f (-(doy (backK k f) f 0 x y)) (-(dox (backK l g) g 0 x' y')) (-(doy (backK l g) g 0 x' y')) := by
  have hk' : k = 0 ∨ k = 1 ∨ k = 2 ∨ k = 3 := by omega
  have hl' : l = 0 ∨ l = 1 ∨ l = 2 ∨ l = 3 := by omega
  rcases hk' with rfl | rfl | rfl | rfl <;> rcases hl' with rfl | rfl | rfl | rfl <;> cases f <;> cases g <;> simp [dox, doy, fl, thenK, backK, tvx, tvy] <;> omega

theorem back_zero {k : Nat} (hk : k < 4) (f : Bool) (x y u v : Int) :
    dox (backK k f) f (-(dox (backK k f) f 0 x y)) x y = 0 ∧ doy (backK k f) f (-(doy (backK k f) f 0 x y)) x y = 0 ∧
    dox k f x (-(dox (backK k f) f 0 x y)) (-(doy (backK k f) f 0 x y)) = 0 ∧ doy k f y (-(dox (backK k f) f 0 x y)) (-(doy (backK k f) f 0 x y)) = 0 ∧
    dox (backK k f) f (-(dox (backK k f) f 0 x y)) (dox k f x u v) (doy k f y u v) = u ∧ doy (backK k f) f (-(doy (backK k f) f 0 x y)) (dox k f x u v) (doy k f y u v) = v := by
  have hk' : k = 0 ∨ k = 1 ∨ k = 2 ∨ k = 3 := by omega
  rcases hk' with rfl | rfl | rfl | rfl <;> cases f <;> simp [dox, doy, fl, backK, tvx, tvy] <;> omega

/-- Then of two maps whose answer is near. -/
theorem then_F {k l : Nat} (hk : k < 4) (hl : l < 4) (f g : Bool) {x y x' y' : Int} (hx : x.natAbs ≤ 268435456000) (hy : y.natAbs ≤ 268435456000) (hx' : x'.natAbs ≤ 268435456000) (hy' : y'.natAbs ≤ 268435456000) (w : World) :
    Calls Try.prog 36 #[isoF k f x y, isoF l g x' y'] w fun e w' => e = .returned (.tuple #[isoF (thenK k l g) (f != g) (dox l g x' x y) (doy l g y' x y), .int .i64 0]) ∧ Below w.heap.size w w' := by
  have b1 := dox_bnd hl g x' x y
  have b2 := doy_bnd hl g y' x y
  have e4 : nearB (dox l g x' x y) (doy l g y' x y) = true := nearB_yes ⟨by omega, by omega, by omega, by omega⟩
  cases g
  · have h := then_dir f (isMap_F hk (x := x) (y := y) (by omega) (by omega)) (isMap_F hl (x := x') (y := y') (by omega) (by omega)) w
    rw [e4] at h
    exact h
  · have h := then_flip f (isMap_F hk (x := x) (y := y) (by omega) (by omega)) (isMap_F hl (x := x') (y := y') (by omega) (by omega)) w
    rw [e4] at h
    exact h
theorem same_F {k : Nat} (hk : k < 4) (f : Bool) {x y : Int} (hx : x.natAbs ≤ 1099511627776) (hy : y.natAbs ≤ 1099511627776) (w : World) :
    Calls Try.prog 38 #[isoF k f x y, isoF k f x y] w fun e w' => e = .returned (.tuple #[.bool true, .int .i64 0]) ∧ Below w.heap.size w w' := by
  have h := same_yes f f (isMap_F hk hx hy) (isMap_F hk hx hy) w
  have e : sameB k f x y k f x y = true := by simp [sameB]
  rw [e] at h
  exact h
theorem at_F {k : Nat} (hk : k < 4) (f : Bool) {x y u v : Int} (hx : x.natAbs ≤ 268435456000) (hy : y.natAbs ≤ 268435456000) (hu : u.natAbs ≤ 268435456000) (hv : v.natAbs ≤ 268435456000) (w : World) :
    Calls Try.prog 26 #[isoF k f x y, .agg #[.int .i64 u, .int .i64 v]] w fun e w' => e = .returned (.tuple #[.agg #[.int .i64 (dox k f x u v), .int .i64 (doy k f y u v)], .int .i64 0]) ∧ Below w.heap.size w w' := by
  have b1 := dox_bnd hk f x u v
  have b2 := doy_bnd hk f y u v
  exact at_yes f u v (isMap_F hk (by omega) (by omega)) ⟨by omega, by omega, by omega, by omega⟩ ⟨by omega, by omega, by omega, by omega⟩ w
theorem back_F {k : Nat} (hk : k < 4) (f : Bool) {x y : Int} (hx : x.natAbs ≤ 1099511627776) (hy : y.natAbs ≤ 1099511627776) (w : World) :
    Calls Try.prog 45 #[isoF k f x y] w fun e w' => e = .returned (.tuple #[isoF (backK k f) f (-(dox (backK k f) f 0 x y)) (-(doy (backK k f) f 0 x y)), .int .i64 0]) ∧ Below w.heap.size w w' :=
  back_yes f (isMap_F hk hx hy) w

set_option maxHeartbeats 4000000 in
/-- What IsoBack's calls answer. -/
theorem back_calls (k x y px py : Int) : ∃ (m b z : M5) (p q r s : Int),
    (∀ W, Calls Try.prog 31 #[.int .i64 k, .int .i64 x, .int .i64 y] W fun e w' => e = .returned (.tuple #[m.V, .bool true]) ∧ Below W.heap.size W w') ∧
    (∀ W, Calls Try.prog 32 #[.agg #[.int .i64 px, .int .i64 py]] W fun e w' => e = .returned (.agg #[.int .i64 p, .int .i64 q]) ∧ Below W.heap.size W w') ∧
    (∀ W, Calls Try.prog 45 #[m.V] W fun e w' => e = .returned (.tuple #[b.V, .int .i64 0]) ∧ Below W.heap.size W w') ∧
    (∀ W, Calls Try.prog 36 #[m.V, b.V] W fun e w' => e = .returned (.tuple #[z.V, .int .i64 0]) ∧ Below W.heap.size W w') ∧
    (∀ W, Calls Try.prog 36 #[b.V, m.V] W fun e w' => e = .returned (.tuple #[z.V, .int .i64 0]) ∧ Below W.heap.size W w') ∧
    (∀ W, Calls Try.prog 40 #[.int .i64 0] W fun e w' => e = .returned (.tuple #[z.V, .int .i64 0]) ∧ Below W.heap.size W w') ∧
    (∀ W, Calls Try.prog 26 #[m.V, .agg #[.int .i64 p, .int .i64 q]] W fun e w' => e = .returned (.tuple #[.agg #[.int .i64 r, .int .i64 s], .int .i64 0]) ∧ Below W.heap.size W w') ∧
    (∀ W, Calls Try.prog 26 #[b.V, .agg #[.int .i64 r, .int .i64 s]] W fun e w' => e = .returned (.tuple #[.agg #[.int .i64 p, .int .i64 q], .int .i64 0]) ∧ Below W.heap.size W w') ∧
    (∀ W, Calls Try.prog 38 #[z.V, z.V] W fun e w' => e = .returned (.tuple #[.bool true, .int .i64 0]) ∧ Below W.heap.size W w') := by
  have hK : kN k % 4 < 4 := by omega
  have hx := rem30_lt x
  have hy := rem30_lt y
  have hp := rem30_lt px
  have hq := rem30_lt py
  have c1 := fun W => lmade k x y W
  have c2 := fun W => lnear px py W
  generalize kN k % 4 = K at *
  generalize kF k = f at *
  generalize rem30 x = X at *
  generalize rem30 y = Y at *
  generalize rem30 px = p at *
  generalize rem30 py = q at *
  have hB := backK_lt hK f
  have b1 := dox_bnd hB f 0 X Y
  have b2 := doy_bnd hB f 0 X Y
  have b3 := dox_bnd hK f X p q
  have b4 := doy_bnd hK f Y p q
  obtain ⟨e1, e2, e3, e4, e5, e6⟩ := back_zero hK f X Y p q
  obtain ⟨t1, t2⟩ := thenK_zero hK f
  obtain ⟨m, hm⟩ := isoF_M5 K f X Y
  obtain ⟨b, hb⟩ := isoF_M5 (backK K f) f (-(dox (backK K f) f 0 X Y)) (-(doy (backK K f) f 0 X Y))
  obtain ⟨z, hz⟩ := isoF_M5 0 false 0 0
  refine ⟨m, b, z, p, q, dox K f X p q, doy K f Y p q, ?_, c2, ?_, ?_, ?_, ?_, ?_, ?_, ?_⟩
  · rw [← hm]; exact c1
  · intro W; rw [← hm, ← hb]; exact back_F hK f (by omega) (by omega) W
  · intro W; rw [← hm, ← hb, ← hz]
    have h := then_F hK hB f f (x := X) (y := Y) (x' := -(dox (backK K f) f 0 X Y)) (y' := -(doy (backK K f) f 0 X Y)) (by omega) (by omega) (by omega) (by omega) W
    rw [e1, e2, t1, show (f != f) = false from by simp] at h
    exact h
  · intro W; rw [← hm, ← hb, ← hz]
    have h := then_F hB hK f f (x' := X) (y' := Y) (x := -(dox (backK K f) f 0 X Y)) (y := -(doy (backK K f) f 0 X Y)) (by omega) (by omega) (by omega) (by omega) W
    rw [e3, e4, t2, show (f != f) = false from by simp] at h
    exact h
  · intro W; rw [← hz]; exact part_lin (k := 0) (by omega) false W
  · intro W; rw [← hm]; exact at_F hK f (by omega) (by omega) (by omega) (by omega) W
  · intro W; rw [← hb]
    have h := at_F hB f (x := -(dox (backK K f) f 0 X Y)) (y := -(doy (backK K f) f 0 X Y)) (u := dox K f X p q) (v := doy K f Y p q) (by omega) (by omega) (by omega) (by omega) W
    rw [e5, e6] at h
    exact h
  · intro W; rw [← hz]; exact same_F (by omega) false (by omega) (by omega) W

set_option maxRecDepth 100000 in
set_option maxHeartbeats 8000000 in
theorem isoBack_walk (k x y px py : Int) (w : World) :
    Calls Try.prog 13 #[.agg #[.int .i64 k, .int .i64 x, .int .i64 y], .agg #[.int .i64 px, .int .i64 py]] w fun e w' => e = .returned (.bool true) ∧ Below w.heap.size w w' := by
  obtain ⟨m, b, z, p, q, r, s, c1, c2, c3, c4, c5, c6, c7, c8, c9⟩ := back_calls k x y px py
  unfold M5.V at *
  have d1 := Lib.hid c1
  have d2 := Lib.hid c2
  have d3 := Lib.hid c3
  have d4 := Lib.hid c4
  have d5 := Lib.hid c5
  have d6 := Lib.hid c6
  have d7 := Lib.hid c7
  have d8 := Lib.hid c8
  have d9 := Lib.hid c9
  clear c1 c2 c3 c4 c5 c6 c7 c8 c9
  have he1 : ∀ W, (binOp .eql 30 (.agg #[.int .i64 p, .int .i64 q]) (.agg #[.int .i64 p, .int .i64 q])).run Try.prog W = .ok (.bool true) W := fun W => by rw [run_eq_pt]; simp
  go_enter Try.func13, Try.ntmps13
  go_wp2_with fail
  refine (alive05 _).mono ?_
  rintro e w1 ⟨rfl, hb⟩
  obtain ⟨hc1, hf1⟩ := bcell hb
  have hs1 : w.heap.size ≤ w1.heap.size := by have := hb.size; (try simp at this); omega
  have hz1_0 : w.heap.size < w1.heap.size := by have := hb.size; (try simp at this); omega
  have hz1_1 : w.heap.size + 1 < w1.heap.size := by have := hb.size; (try simp at this); omega
  have hB1 := Lib.hid (below_then (B := w.heap.size) (w := w) (by repeat (first | exact Below.refl _ _ | refine Below.alloc ?_ (by first | omega | (simp; done) | (simp; omega)) _ | refine Below.setCell ?_ (by first | omega | (simp; done) | (simp; omega)) _ | refine Below.drew ?_)) hb (by first | omega | (simp; done) | (simp; omega)))
  clear hb
  go_wp2_with fail
  refine (d1.out _).mono ?_
  rintro e w2 ⟨rfl, hb⟩
  obtain ⟨hc2, hf2⟩ := bcell hb
  have hs2 : w.heap.size ≤ w2.heap.size := by have := hb.size; (try simp at this); omega
  have hz2_0 : w.heap.size < w2.heap.size := by have := hb.size; (try simp at this); omega
  have hz2_1 : w.heap.size + 1 < w2.heap.size := by have := hb.size; (try simp at this); omega
  have hB2 := Lib.hid (below_then (B := w.heap.size) (w := w) (by repeat (first | exact Below.refl _ _ | exact hB1.out | refine Below.alloc ?_ (by first | omega | (simp; done) | (simp; omega)) _ | refine Below.setCell ?_ (by first | omega | (simp; done) | (simp; omega)) _ | refine Below.drew ?_)) hb (by first | omega | (simp; done) | (simp; omega)))
  clear hb
  go_wp2_with fail
  refine (d2.out _).mono ?_
  rintro e w3 ⟨rfl, hb⟩
  obtain ⟨hc3, hf3⟩ := bcell hb
  have hs3 : w.heap.size ≤ w3.heap.size := by have := hb.size; (try simp at this); omega
  have hz3_0 : w.heap.size < w3.heap.size := by have := hb.size; (try simp at this); omega
  have hz3_1 : w.heap.size + 1 < w3.heap.size := by have := hb.size; (try simp at this); omega
  have hz3_2 : w2.heap.size < w3.heap.size := by have := hb.size; (try simp at this); omega
  have hB3 := Lib.hid (below_then (B := w.heap.size) (w := w) (by repeat (first | exact Below.refl _ _ | exact hB2.out | exact hB1.out | refine Below.alloc ?_ (by first | omega | (simp; done) | (simp; omega)) _ | refine Below.setCell ?_ (by first | omega | (simp; done) | (simp; omega)) _ | refine Below.drew ?_)) hb (by first | omega | (simp; done) | (simp; omega)))
  clear hb
  go_wp2_with fail
  refine (d3.out _).mono ?_
  rintro e w4 ⟨rfl, hb⟩
  obtain ⟨hc4, hf4⟩ := bcell hb
  have hs4 : w.heap.size ≤ w4.heap.size := by have := hb.size; (try simp at this); omega
  have hz4_0 : w.heap.size < w4.heap.size := by have := hb.size; (try simp at this); omega
  have hz4_1 : w.heap.size + 1 < w4.heap.size := by have := hb.size; (try simp at this); omega
  have hz4_2 : w2.heap.size < w4.heap.size := by have := hb.size; (try simp at this); omega
  have hz4_3 : w3.heap.size < w4.heap.size := by have := hb.size; (try simp at this); omega
  have hB4 := Lib.hid (below_then (B := w.heap.size) (w := w) (by repeat (first | exact Below.refl _ _ | exact hB3.out | exact hB2.out | exact hB1.out | refine Below.alloc ?_ (by first | omega | (simp; done) | (simp; omega)) _ | refine Below.setCell ?_ (by first | omega | (simp; done) | (simp; omega)) _ | refine Below.drew ?_)) hb (by first | omega | (simp; done) | (simp; omega)))
  clear hb
  go_wp2_with fail
  refine (d4.out _).mono ?_
  rintro e w5 ⟨rfl, hb⟩
  obtain ⟨hc5, hf5⟩ := bcell hb
  have hs5 : w.heap.size ≤ w5.heap.size := by have := hb.size; (try simp at this); omega
  have hz5_0 : w.heap.size < w5.heap.size := by have := hb.size; (try simp at this); omega
  have hz5_1 : w.heap.size + 1 < w5.heap.size := by have := hb.size; (try simp at this); omega
  have hz5_2 : w2.heap.size < w5.heap.size := by have := hb.size; (try simp at this); omega
  have hz5_3 : w3.heap.size < w5.heap.size := by have := hb.size; (try simp at this); omega
  have hz5_4 : w4.heap.size < w5.heap.size := by have := hb.size; (try simp at this); omega
  have hB5 := Lib.hid (below_then (B := w.heap.size) (w := w) (by repeat (first | exact Below.refl _ _ | exact hB4.out | exact hB3.out | exact hB2.out | exact hB1.out | refine Below.alloc ?_ (by first | omega | (simp; done) | (simp; omega)) _ | refine Below.setCell ?_ (by first | omega | (simp; done) | (simp; omega)) _ | refine Below.drew ?_)) hb (by first | omega | (simp; done) | (simp; omega)))
  clear hb
  go_wp2_with fail
  refine (d5.out _).mono ?_
  rintro e w6 ⟨rfl, hb⟩
  obtain ⟨hc6, hf6⟩ := bcell hb
  have hs6 : w.heap.size ≤ w6.heap.size := by have := hb.size; (try simp at this); omega
  have hz6_0 : w.heap.size < w6.heap.size := by have := hb.size; (try simp at this); omega
  have hz6_1 : w.heap.size + 1 < w6.heap.size := by have := hb.size; (try simp at this); omega
  have hz6_2 : w2.heap.size < w6.heap.size := by have := hb.size; (try simp at this); omega
  have hz6_3 : w3.heap.size < w6.heap.size := by have := hb.size; (try simp at this); omega
  have hz6_4 : w4.heap.size < w6.heap.size := by have := hb.size; (try simp at this); omega
  have hz6_5 : w5.heap.size < w6.heap.size := by have := hb.size; (try simp at this); omega
  have hB6 := Lib.hid (below_then (B := w.heap.size) (w := w) (by repeat (first | exact Below.refl _ _ | exact hB5.out | exact hB4.out | exact hB3.out | exact hB2.out | exact hB1.out | refine Below.alloc ?_ (by first | omega | (simp; done) | (simp; omega)) _ | refine Below.setCell ?_ (by first | omega | (simp; done) | (simp; omega)) _ | refine Below.drew ?_)) hb (by first | omega | (simp; done) | (simp; omega)))
  clear hb
  go_wp2_with fail
  refine (d6.out _).mono ?_
  rintro e w7 ⟨rfl, hb⟩
  obtain ⟨hc7, hf7⟩ := bcell hb
  have hs7 : w.heap.size ≤ w7.heap.size := by have := hb.size; (try simp at this); omega
  have hz7_0 : w.heap.size < w7.heap.size := by have := hb.size; (try simp at this); omega
  have hz7_1 : w.heap.size + 1 < w7.heap.size := by have := hb.size; (try simp at this); omega
  have hz7_2 : w2.heap.size < w7.heap.size := by have := hb.size; (try simp at this); omega
  have hz7_3 : w3.heap.size < w7.heap.size := by have := hb.size; (try simp at this); omega
  have hz7_4 : w4.heap.size < w7.heap.size := by have := hb.size; (try simp at this); omega
  have hz7_5 : w5.heap.size < w7.heap.size := by have := hb.size; (try simp at this); omega
  have hz7_6 : w6.heap.size < w7.heap.size := by have := hb.size; (try simp at this); omega
  have hB7 := Lib.hid (below_then (B := w.heap.size) (w := w) (by repeat (first | exact Below.refl _ _ | exact hB6.out | exact hB5.out | exact hB4.out | exact hB3.out | exact hB2.out | exact hB1.out | refine Below.alloc ?_ (by first | omega | (simp; done) | (simp; omega)) _ | refine Below.setCell ?_ (by first | omega | (simp; done) | (simp; omega)) _ | refine Below.drew ?_)) hb (by first | omega | (simp; done) | (simp; omega)))
  clear hb
  go_wp2_with fail
  refine (d7.out _).mono ?_
  rintro e w8 ⟨rfl, hb⟩
  obtain ⟨hc8, hf8⟩ := bcell hb
  have hs8 : w.heap.size ≤ w8.heap.size := by have := hb.size; (try simp at this); omega
  have hz8_0 : w.heap.size < w8.heap.size := by have := hb.size; (try simp at this); omega
  have hz8_1 : w.heap.size + 1 < w8.heap.size := by have := hb.size; (try simp at this); omega
  have hz8_2 : w2.heap.size < w8.heap.size := by have := hb.size; (try simp at this); omega
  have hz8_3 : w3.heap.size < w8.heap.size := by have := hb.size; (try simp at this); omega
  have hz8_4 : w4.heap.size < w8.heap.size := by have := hb.size; (try simp at this); omega
  have hz8_5 : w5.heap.size < w8.heap.size := by have := hb.size; (try simp at this); omega
  have hz8_6 : w6.heap.size < w8.heap.size := by have := hb.size; (try simp at this); omega
  have hz8_7 : w7.heap.size < w8.heap.size := by have := hb.size; (try simp at this); omega
  have hB8 := Lib.hid (below_then (B := w.heap.size) (w := w) (by repeat (first | exact Below.refl _ _ | exact hB7.out | exact hB6.out | exact hB5.out | exact hB4.out | exact hB3.out | exact hB2.out | exact hB1.out | refine Below.alloc ?_ (by first | omega | (simp; done) | (simp; omega)) _ | refine Below.setCell ?_ (by first | omega | (simp; done) | (simp; omega)) _ | refine Below.drew ?_)) hb (by first | omega | (simp; done) | (simp; omega)))
  clear hb
  go_wp2_with fail
  refine (d8.out _).mono ?_
  rintro e w9 ⟨rfl, hb⟩
  obtain ⟨hc9, hf9⟩ := bcell hb
  have hs9 : w.heap.size ≤ w9.heap.size := by have := hb.size; (try simp at this); omega
  have hz9_0 : w.heap.size < w9.heap.size := by have := hb.size; (try simp at this); omega
  have hz9_1 : w.heap.size + 1 < w9.heap.size := by have := hb.size; (try simp at this); omega
  have hz9_2 : w2.heap.size < w9.heap.size := by have := hb.size; (try simp at this); omega
  have hz9_3 : w3.heap.size < w9.heap.size := by have := hb.size; (try simp at this); omega
  have hz9_4 : w4.heap.size < w9.heap.size := by have := hb.size; (try simp at this); omega
  have hz9_5 : w5.heap.size < w9.heap.size := by have := hb.size; (try simp at this); omega
  have hz9_6 : w6.heap.size < w9.heap.size := by have := hb.size; (try simp at this); omega
  have hz9_7 : w7.heap.size < w9.heap.size := by have := hb.size; (try simp at this); omega
  have hz9_8 : w8.heap.size < w9.heap.size := by have := hb.size; (try simp at this); omega
  have hB9 := Lib.hid (below_then (B := w.heap.size) (w := w) (by repeat (first | exact Below.refl _ _ | exact hB8.out | exact hB7.out | exact hB6.out | exact hB5.out | exact hB4.out | exact hB3.out | exact hB2.out | exact hB1.out | refine Below.alloc ?_ (by first | omega | (simp; done) | (simp; omega)) _ | refine Below.setCell ?_ (by first | omega | (simp; done) | (simp; omega)) _ | refine Below.drew ?_)) hb (by first | omega | (simp; done) | (simp; omega)))
  clear hb
  go_wp2_with fail
  refine (d9.out _).mono ?_
  rintro e w10 ⟨rfl, hb⟩
  obtain ⟨hc10, hf10⟩ := bcell hb
  have hs10 : w.heap.size ≤ w10.heap.size := by have := hb.size; (try simp at this); omega
  have hz10_0 : w.heap.size < w10.heap.size := by have := hb.size; (try simp at this); omega
  have hz10_1 : w.heap.size + 1 < w10.heap.size := by have := hb.size; (try simp at this); omega
  have hz10_2 : w2.heap.size < w10.heap.size := by have := hb.size; (try simp at this); omega
  have hz10_3 : w3.heap.size < w10.heap.size := by have := hb.size; (try simp at this); omega
  have hz10_4 : w4.heap.size < w10.heap.size := by have := hb.size; (try simp at this); omega
  have hz10_5 : w5.heap.size < w10.heap.size := by have := hb.size; (try simp at this); omega
  have hz10_6 : w6.heap.size < w10.heap.size := by have := hb.size; (try simp at this); omega
  have hz10_7 : w7.heap.size < w10.heap.size := by have := hb.size; (try simp at this); omega
  have hz10_8 : w8.heap.size < w10.heap.size := by have := hb.size; (try simp at this); omega
  have hz10_9 : w9.heap.size < w10.heap.size := by have := hb.size; (try simp at this); omega
  have hB10 := Lib.hid (below_then (B := w.heap.size) (w := w) (by repeat (first | exact Below.refl _ _ | exact hB9.out | exact hB8.out | exact hB7.out | exact hB6.out | exact hB5.out | exact hB4.out | exact hB3.out | exact hB2.out | exact hB1.out | refine Below.alloc ?_ (by first | omega | (simp; done) | (simp; omega)) _ | refine Below.setCell ?_ (by first | omega | (simp; done) | (simp; omega)) _ | refine Below.drew ?_)) hb (by first | omega | (simp; done) | (simp; omega)))
  clear hb
  go_wp2_with fail
  refine (d9.out _).mono ?_
  rintro e w11 ⟨rfl, hb⟩
  obtain ⟨hc11, hf11⟩ := bcell hb
  have hs11 : w.heap.size ≤ w11.heap.size := by have := hb.size; (try simp at this); omega
  have hz11_0 : w.heap.size < w11.heap.size := by have := hb.size; (try simp at this); omega
  have hz11_1 : w.heap.size + 1 < w11.heap.size := by have := hb.size; (try simp at this); omega
  have hz11_2 : w2.heap.size < w11.heap.size := by have := hb.size; (try simp at this); omega
  have hz11_3 : w3.heap.size < w11.heap.size := by have := hb.size; (try simp at this); omega
  have hz11_4 : w4.heap.size < w11.heap.size := by have := hb.size; (try simp at this); omega
  have hz11_5 : w5.heap.size < w11.heap.size := by have := hb.size; (try simp at this); omega
  have hz11_6 : w6.heap.size < w11.heap.size := by have := hb.size; (try simp at this); omega
  have hz11_7 : w7.heap.size < w11.heap.size := by have := hb.size; (try simp at this); omega
  have hz11_8 : w8.heap.size < w11.heap.size := by have := hb.size; (try simp at this); omega
  have hz11_9 : w9.heap.size < w11.heap.size := by have := hb.size; (try simp at this); omega
  have hB11 := Lib.hid (below_then (B := w.heap.size) (w := w) (by repeat (first | exact Below.refl _ _ | exact hB10.out | exact hB9.out | exact hB8.out | exact hB7.out | exact hB6.out | exact hB5.out | exact hB4.out | exact hB3.out | exact hB2.out | exact hB1.out | refine Below.alloc ?_ (by first | omega | (simp; done) | (simp; omega)) _ | refine Below.setCell ?_ (by first | omega | (simp; done) | (simp; omega)) _ | refine Below.drew ?_)) hb (by first | omega | (simp; done) | (simp; omega)))
  clear hb
  go_wp2
  go_ret
  exact ⟨rfl, by repeat (first | exact Below.refl _ _ | exact hB11.out | exact hB10.out | exact hB9.out | exact hB8.out | exact hB7.out | exact hB6.out | exact hB5.out | exact hB4.out | exact hB3.out | exact hB2.out | exact hB1.out | refine Below.alloc ?_ (by first | omega | (simp; done) | (simp; omega)) _ | refine Below.setCell ?_ (by first | omega | (simp; done) | (simp; omega)) _ | refine Below.drew ?_)⟩
end Go.Proofs.Ytjomgjlicfoehaa
