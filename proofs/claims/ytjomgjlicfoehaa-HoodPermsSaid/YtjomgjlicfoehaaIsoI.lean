import Derived.Test.YtjomgjlicfoehaaIsoH
namespace Go.Proofs.Ytjomgjlicfoehaa
open Go.RowKit Flt
attribute [local go_sem] run_store_float run_store_complex unary_neg_float unary_neg_complex
set_option linter.unusedSimpArgs false
set_option linter.unusedVariables false

theorem rnear_b {x : Int} {b : Bool} (h : nr x = b) (w : World) : Calls Try.prog 60 #[.int .i64 x] w fun e w' => e = .returned (.bool b) ∧ w = w' := by
  subst h; exact rnear x w
theorem dox_move (k : Nat) (f : Bool) (x u v : Int) : dox k f 0 u v + x = dox k f x u v := by unfold dox; omega
theorem doy_move (k : Nat) (f : Bool) (y u v : Int) : doy k f 0 u v + y = doy k f y u v := by unfold doy; omega
def ptV (x y : Int) : Value := .agg #[.int .i64 x, .int .i64 y]

set_option maxHeartbeats 1000000 in
theorem rat_iso {a b c d : Nat} (f : Bool) (px py : Int) (hw : Wide a b c d) (h : ¬ ∃ k x y, IsMap a b c d k x y) (w : World) :
    Calls Try.prog 27 #[isoV a b f c d, .agg #[.int .i64 px, .int .i64 py]] w fun e w' => e = .returned (.tuple #[ptV 0 0, .int .i64 50]) ∧ Below w.heap.size w w' := by
  have K10 := fun W => parts_no f hw h W
  have K1 := Lib.hid K10
  clear K10
  unfold noParts at K1
  clear h hw
  go_enter Try.func27, Try.ntmps27
  go_wp2_with fail
  refine (K1.out _).mono ?_
  rintro e w1 ⟨rfl, hb⟩
  obtain ⟨hc1, hf1⟩ := bcell hb
  have hs1 : w.heap.size ≤ w1.heap.size := by have := hb.size; (try simp at this); omega
  have hz1_0 : w.heap.size < w1.heap.size := by have := hb.size; (try simp at this); omega
  have hz1_1 : w.heap.size + 1 < w1.heap.size := by have := hb.size; (try simp at this); omega
  have hz1_2 : w.heap.size + 1 + 1 < w1.heap.size := by have := hb.size; (try simp at this); omega
  have hB1 := Lib.hid (below_then (B := w.heap.size) (w := w) (by repeat (first | exact Below.refl _ _ | refine Below.alloc ?_ (by first | omega | (simp; done) | (simp; omega)) _ | refine Below.setCell ?_ (by first | omega | (simp; done) | (simp; omega)) _ | refine Below.drew ?_)) hb (by first | omega | (simp; done) | (simp; omega)))
  clear hb
  go_wp2
  exact bodyPost_ret (v := .tuple #[ptV 0 0, .int .i64 50]) (by simp [results, Try.results27, go_sem, hc1, hz1_0, hz1_1, hz1_2, ptV]) rfl ⟨rfl, by repeat (first | exact Below.refl _ _ | exact hB1.out | refine Below.alloc ?_ (by first | omega | (simp; done) | (simp; omega)) _ | refine Below.setCell ?_ (by first | omega | (simp; done) | (simp; omega)) _ | refine Below.drew ?_)⟩

set_option maxHeartbeats 2000000 in
theorem rat_farx {a b c d k : Nat} {x y : Int} (f : Bool) {px py : Int} (h : IsMap a b c d k x y) (hx : nr px = false) (w : World) :
    Calls Try.prog 27 #[isoV a b f c d, .agg #[.int .i64 px, .int .i64 py]] w fun e w' => e = .returned (.tuple #[ptV 0 0, .int .i64 5]) ∧ Below w.heap.size w w' := by
  have K10 := fun W => parts_yes f h W
  have K1 := Lib.hid K10
  clear K10
  have K20 := fun W => rnear_b hx W
  have K2 := Lib.hid K20
  clear K20
  clear h hx
  generalize linN k f = n at *
  go_enter Try.func27, Try.ntmps27
  go_wp2_with fail
  refine (K1.out _).mono ?_
  rintro e w1 ⟨rfl, hb⟩
  obtain ⟨hc1, hf1⟩ := bcell hb
  have hs1 : w.heap.size ≤ w1.heap.size := by have := hb.size; (try simp at this); omega
  have hz1_0 : w.heap.size < w1.heap.size := by have := hb.size; (try simp at this); omega
  have hz1_1 : w.heap.size + 1 < w1.heap.size := by have := hb.size; (try simp at this); omega
  have hz1_2 : w.heap.size + 1 + 1 < w1.heap.size := by have := hb.size; (try simp at this); omega
  have hB1 := Lib.hid (below_then (B := w.heap.size) (w := w) (by repeat (first | exact Below.refl _ _ | refine Below.alloc ?_ (by first | omega | (simp; done) | (simp; omega)) _ | refine Below.setCell ?_ (by first | omega | (simp; done) | (simp; omega)) _ | refine Below.drew ?_)) hb (by first | omega | (simp; done) | (simp; omega)))
  clear hb
  go_wp2_with fail
  refine (K2.out _).mono ?_
  rintro e w0 ⟨rfl, rfl⟩
  go_wp2
  exact bodyPost_ret (v := .tuple #[ptV 0 0, .int .i64 5]) (by simp [results, Try.results27, go_sem, hc1, hz1_0, hz1_1, hz1_2, ptV]) rfl ⟨rfl, by repeat (first | exact Below.refl _ _ | exact hB1.out | refine Below.alloc ?_ (by first | omega | (simp; done) | (simp; omega)) _ | refine Below.setCell ?_ (by first | omega | (simp; done) | (simp; omega)) _ | refine Below.drew ?_)⟩

set_option maxHeartbeats 2000000 in
theorem rat_fary {a b c d k : Nat} {x y : Int} (f : Bool) {px py : Int} (h : IsMap a b c d k x y) (hx : nr px = true) (hy : nr py = false) (w : World) :
    Calls Try.prog 27 #[isoV a b f c d, .agg #[.int .i64 px, .int .i64 py]] w fun e w' => e = .returned (.tuple #[ptV 0 0, .int .i64 5]) ∧ Below w.heap.size w w' := by
  have K10 := fun W => parts_yes f h W
  have K1 := Lib.hid K10
  clear K10
  have K20 := fun W => rnear_b hx W
  have K2 := Lib.hid K20
  clear K20
  have K30 := fun W => rnear_b hy W
  have K3 := Lib.hid K30
  clear K30
  clear h hx hy
  generalize linN k f = n at *
  go_enter Try.func27, Try.ntmps27
  go_wp2_with fail
  refine (K1.out _).mono ?_
  rintro e w1 ⟨rfl, hb⟩
  obtain ⟨hc1, hf1⟩ := bcell hb
  have hs1 : w.heap.size ≤ w1.heap.size := by have := hb.size; (try simp at this); omega
  have hz1_0 : w.heap.size < w1.heap.size := by have := hb.size; (try simp at this); omega
  have hz1_1 : w.heap.size + 1 < w1.heap.size := by have := hb.size; (try simp at this); omega
  have hz1_2 : w.heap.size + 1 + 1 < w1.heap.size := by have := hb.size; (try simp at this); omega
  have hB1 := Lib.hid (below_then (B := w.heap.size) (w := w) (by repeat (first | exact Below.refl _ _ | refine Below.alloc ?_ (by first | omega | (simp; done) | (simp; omega)) _ | refine Below.setCell ?_ (by first | omega | (simp; done) | (simp; omega)) _ | refine Below.drew ?_)) hb (by first | omega | (simp; done) | (simp; omega)))
  clear hb
  go_wp2_with fail
  refine (K2.out _).mono ?_
  rintro e w0 ⟨rfl, rfl⟩
  go_wp2_with fail
  refine (K3.out _).mono ?_
  rintro e w0 ⟨rfl, rfl⟩
  go_wp2
  exact bodyPost_ret (v := .tuple #[ptV 0 0, .int .i64 5]) (by simp [results, Try.results27, go_sem, hc1, hz1_0, hz1_1, hz1_2, ptV]) rfl ⟨rfl, by repeat (first | exact Below.refl _ _ | exact hB1.out | refine Below.alloc ?_ (by first | omega | (simp; done) | (simp; omega)) _ | refine Below.setCell ?_ (by first | omega | (simp; done) | (simp; omega)) _ | refine Below.drew ?_)⟩

set_option maxHeartbeats 2000000 in
theorem rat_outx {a b c d k : Nat} {x y : Int} (f : Bool) {px py : Int} (h : IsMap a b c d k x y) (hx : nr px = true) (hy : nr py = true) (rx : nr (dox k f x px py) = false) (w : World) :
    Calls Try.prog 27 #[isoV a b f c d, .agg #[.int .i64 px, .int .i64 py]] w fun e w' => e = .returned (.tuple #[ptV 0 0, .int .i64 5]) ∧ Below w.heap.size w w' := by
  have K10 := fun W => parts_yes f h W
  have K1 := Lib.hid K10
  clear K10
  have K20 := fun W => rnear_b hx W
  have K2 := Lib.hid K20
  clear K20
  have K30 := fun W => rnear_b hy W
  have K3 := Lib.hid K30
  clear K30
  have bx : -1099511627776 ≤ px ∧ px ≤ 1099511627776 := by unfold nr at hx; simpa using hx
  have by' : -1099511627776 ≤ py ∧ py ≤ 1099511627776 := by unfold nr at hy; simpa using hy
  have K40 := fun W => linear f h.turn.1 (x := px) (y := py) (by omega) (by omega) W
  have K4 := Lib.hid K40
  clear K40
  obtain ⟨d1, d2⟩ := dox_bound h.turn.1 f (x := 0) (y := 0) (u := px) (v := py) (by omega) (by omega) (by unfold Near; omega)
  have bm := h.x.2
  have bn := h.y.2
  have K50 := fun W => rnear_b rx W
  have K5 := Lib.hid K50
  clear K50
  rw [← dox_move] at K5
  have l1 : -4398046511104 ≤ dox k f 0 px py := by omega
  have l2 : dox k f 0 px py ≤ 4398046511104 := by omega
  have l3 : -4398046511104 ≤ doy k f 0 px py := by omega
  have l4 : doy k f 0 px py ≤ 4398046511104 := by omega
  have m1 : -1099511627776 ≤ x := by omega
  have m2 : x ≤ 1099511627776 := by omega
  have m3 : -1099511627776 ≤ y := by omega
  have m4 : y ≤ 1099511627776 := by omega
  generalize dox k f 0 px py = U at *
  generalize doy k f 0 px py = V at *
  clear h hx hy d1 d2 bm bn bx by' rx
  generalize linN k f = n at *
  go_enter Try.func27, Try.ntmps27
  go_wp2_with fail
  refine (K1.out _).mono ?_
  rintro e w1 ⟨rfl, hb⟩
  obtain ⟨hc1, hf1⟩ := bcell hb
  have hs1 : w.heap.size ≤ w1.heap.size := by have := hb.size; (try simp at this); omega
  have hz1_0 : w.heap.size < w1.heap.size := by have := hb.size; (try simp at this); omega
  have hz1_1 : w.heap.size + 1 < w1.heap.size := by have := hb.size; (try simp at this); omega
  have hz1_2 : w.heap.size + 1 + 1 < w1.heap.size := by have := hb.size; (try simp at this); omega
  have hB1 := Lib.hid (below_then (B := w.heap.size) (w := w) (by repeat (first | exact Below.refl _ _ | refine Below.alloc ?_ (by first | omega | (simp; done) | (simp; omega)) _ | refine Below.setCell ?_ (by first | omega | (simp; done) | (simp; omega)) _ | refine Below.drew ?_)) hb (by first | omega | (simp; done) | (simp; omega)))
  clear hb
  go_wp2_with fail
  refine (K2.out _).mono ?_
  rintro e w0 ⟨rfl, rfl⟩
  go_wp2_with fail
  refine (K3.out _).mono ?_
  rintro e w0 ⟨rfl, rfl⟩
  go_wp2_with fail
  refine (K4.out _).mono ?_
  rintro e w0 ⟨rfl, rfl⟩
  go_wp2_with fail
  refine (K5.out _).mono ?_
  rintro e w0 ⟨rfl, rfl⟩
  go_wp2
  exact bodyPost_ret (v := .tuple #[ptV 0 0, .int .i64 5]) (by simp [results, Try.results27, go_sem, hc1, hz1_0, hz1_1, hz1_2, ptV]) rfl ⟨rfl, by repeat (first | exact Below.refl _ _ | exact hB1.out | refine Below.alloc ?_ (by first | omega | (simp; done) | (simp; omega)) _ | refine Below.setCell ?_ (by first | omega | (simp; done) | (simp; omega)) _ | refine Below.drew ?_)⟩

set_option maxHeartbeats 2000000 in
theorem rat_outy {a b c d k : Nat} {x y : Int} (f : Bool) {px py : Int} (h : IsMap a b c d k x y) (hx : nr px = true) (hy : nr py = true) (rx : nr (dox k f x px py) = true) (ry : nr (doy k f y px py) = false) (w : World) :
    Calls Try.prog 27 #[isoV a b f c d, .agg #[.int .i64 px, .int .i64 py]] w fun e w' => e = .returned (.tuple #[ptV 0 0, .int .i64 5]) ∧ Below w.heap.size w w' := by
  have K10 := fun W => parts_yes f h W
  have K1 := Lib.hid K10
  clear K10
  have K20 := fun W => rnear_b hx W
  have K2 := Lib.hid K20
  clear K20
  have K30 := fun W => rnear_b hy W
  have K3 := Lib.hid K30
  clear K30
  have bx : -1099511627776 ≤ px ∧ px ≤ 1099511627776 := by unfold nr at hx; simpa using hx
  have by' : -1099511627776 ≤ py ∧ py ≤ 1099511627776 := by unfold nr at hy; simpa using hy
  have K40 := fun W => linear f h.turn.1 (x := px) (y := py) (by omega) (by omega) W
  have K4 := Lib.hid K40
  clear K40
  obtain ⟨d1, d2⟩ := dox_bound h.turn.1 f (x := 0) (y := 0) (u := px) (v := py) (by omega) (by omega) (by unfold Near; omega)
  have bm := h.x.2
  have bn := h.y.2
  have K50 := fun W => rnear_b rx W
  have K5 := Lib.hid K50
  clear K50
  have K60 := fun W => rnear_b ry W
  have K6 := Lib.hid K60
  clear K60
  rw [← dox_move] at K5
  rw [← doy_move] at K6
  have l1 : -4398046511104 ≤ dox k f 0 px py := by omega
  have l2 : dox k f 0 px py ≤ 4398046511104 := by omega
  have l3 : -4398046511104 ≤ doy k f 0 px py := by omega
  have l4 : doy k f 0 px py ≤ 4398046511104 := by omega
  have m1 : -1099511627776 ≤ x := by omega
  have m2 : x ≤ 1099511627776 := by omega
  have m3 : -1099511627776 ≤ y := by omega
  have m4 : y ≤ 1099511627776 := by omega
  generalize dox k f 0 px py = U at *
  generalize doy k f 0 px py = V at *
  clear h hx hy d1 d2 bm bn bx by' rx ry
  generalize linN k f = n at *
  go_enter Try.func27, Try.ntmps27
  go_wp2_with fail
  refine (K1.out _).mono ?_
  rintro e w1 ⟨rfl, hb⟩
  obtain ⟨hc1, hf1⟩ := bcell hb
  have hs1 : w.heap.size ≤ w1.heap.size := by have := hb.size; (try simp at this); omega
  have hz1_0 : w.heap.size < w1.heap.size := by have := hb.size; (try simp at this); omega
  have hz1_1 : w.heap.size + 1 < w1.heap.size := by have := hb.size; (try simp at this); omega
  have hz1_2 : w.heap.size + 1 + 1 < w1.heap.size := by have := hb.size; (try simp at this); omega
  have hB1 := Lib.hid (below_then (B := w.heap.size) (w := w) (by repeat (first | exact Below.refl _ _ | refine Below.alloc ?_ (by first | omega | (simp; done) | (simp; omega)) _ | refine Below.setCell ?_ (by first | omega | (simp; done) | (simp; omega)) _ | refine Below.drew ?_)) hb (by first | omega | (simp; done) | (simp; omega)))
  clear hb
  go_wp2_with fail
  refine (K2.out _).mono ?_
  rintro e w0 ⟨rfl, rfl⟩
  go_wp2_with fail
  refine (K3.out _).mono ?_
  rintro e w0 ⟨rfl, rfl⟩
  go_wp2_with fail
  refine (K4.out _).mono ?_
  rintro e w0 ⟨rfl, rfl⟩
  go_wp2_with fail
  refine (K5.out _).mono ?_
  rintro e w0 ⟨rfl, rfl⟩
  go_wp2_with fail
  refine (K6.out _).mono ?_
  rintro e w0 ⟨rfl, rfl⟩
  go_wp2
  exact bodyPost_ret (v := .tuple #[ptV 0 0, .int .i64 5]) (by simp [results, Try.results27, go_sem, hc1, hz1_0, hz1_1, hz1_2, ptV]) rfl ⟨rfl, by repeat (first | exact Below.refl _ _ | exact hB1.out | refine Below.alloc ?_ (by first | omega | (simp; done) | (simp; omega)) _ | refine Below.setCell ?_ (by first | omega | (simp; done) | (simp; omega)) _ | refine Below.drew ?_)⟩

set_option maxHeartbeats 2000000 in
theorem rat_yes {a b c d k : Nat} {x y : Int} (f : Bool) {px py : Int} (h : IsMap a b c d k x y) (hx : nr px = true) (hy : nr py = true) (rx : nr (dox k f x px py) = true) (ry : nr (doy k f y px py) = true) (w : World) :
    Calls Try.prog 27 #[isoV a b f c d, .agg #[.int .i64 px, .int .i64 py]] w fun e w' => e = .returned (.tuple #[ptV (dox k f x px py) (doy k f y px py), .int .i64 0]) ∧ Below w.heap.size w w' := by
  have K10 := fun W => parts_yes f h W
  have K1 := Lib.hid K10
  clear K10
  have K20 := fun W => rnear_b hx W
  have K2 := Lib.hid K20
  clear K20
  have K30 := fun W => rnear_b hy W
  have K3 := Lib.hid K30
  clear K30
  have bx : -1099511627776 ≤ px ∧ px ≤ 1099511627776 := by unfold nr at hx; simpa using hx
  have by' : -1099511627776 ≤ py ∧ py ≤ 1099511627776 := by unfold nr at hy; simpa using hy
  have K40 := fun W => linear f h.turn.1 (x := px) (y := py) (by omega) (by omega) W
  have K4 := Lib.hid K40
  clear K40
  obtain ⟨d1, d2⟩ := dox_bound h.turn.1 f (x := 0) (y := 0) (u := px) (v := py) (by omega) (by omega) (by unfold Near; omega)
  have bm := h.x.2
  have bn := h.y.2
  have K50 := fun W => rnear_b rx W
  have K5 := Lib.hid K50
  clear K50
  have K60 := fun W => rnear_b ry W
  have K6 := Lib.hid K60
  clear K60
  rw [← dox_move] at K5
  rw [← doy_move] at K6
  have l1 : -4398046511104 ≤ dox k f 0 px py := by omega
  have l2 : dox k f 0 px py ≤ 4398046511104 := by omega
  have l3 : -4398046511104 ≤ doy k f 0 px py := by omega
  have l4 : doy k f 0 px py ≤ 4398046511104 := by omega
  have m1 : -1099511627776 ≤ x := by omega
  have m2 : x ≤ 1099511627776 := by omega
  have m3 : -1099511627776 ≤ y := by omega
  have m4 : y ≤ 1099511627776 := by omega
  rw [← dox_move, ← doy_move]
  generalize dox k f 0 px py = U at *
  generalize doy k f 0 px py = V at *
  clear h hx hy d1 d2 bm bn bx by' rx ry
  generalize linN k f = n at *
  go_enter Try.func27, Try.ntmps27
  go_wp2_with fail
  refine (K1.out _).mono ?_
  rintro e w1 ⟨rfl, hb⟩
  obtain ⟨hc1, hf1⟩ := bcell hb
  have hs1 : w.heap.size ≤ w1.heap.size := by have := hb.size; (try simp at this); omega
  have hz1_0 : w.heap.size < w1.heap.size := by have := hb.size; (try simp at this); omega
  have hz1_1 : w.heap.size + 1 < w1.heap.size := by have := hb.size; (try simp at this); omega
  have hz1_2 : w.heap.size + 1 + 1 < w1.heap.size := by have := hb.size; (try simp at this); omega
  have hB1 := Lib.hid (below_then (B := w.heap.size) (w := w) (by repeat (first | exact Below.refl _ _ | refine Below.alloc ?_ (by first | omega | (simp; done) | (simp; omega)) _ | refine Below.setCell ?_ (by first | omega | (simp; done) | (simp; omega)) _ | refine Below.drew ?_)) hb (by first | omega | (simp; done) | (simp; omega)))
  clear hb
  go_wp2_with fail
  refine (K2.out _).mono ?_
  rintro e w0 ⟨rfl, rfl⟩
  go_wp2_with fail
  refine (K3.out _).mono ?_
  rintro e w0 ⟨rfl, rfl⟩
  go_wp2_with fail
  refine (K4.out _).mono ?_
  rintro e w0 ⟨rfl, rfl⟩
  go_wp2_with fail
  refine (K5.out _).mono ?_
  rintro e w0 ⟨rfl, rfl⟩
  go_wp2_with fail
  refine (K6.out _).mono ?_
  rintro e w0 ⟨rfl, rfl⟩
  go_wp2
  exact bodyPost_ret (v := .tuple #[ptV (U + x) (V + y), .int .i64 0]) (by simp [results, Try.results27, go_sem, hc1, hz1_0, hz1_1, hz1_2, ptV]) rfl ⟨rfl, by repeat (first | exact Below.refl _ _ | exact hB1.out | refine Below.alloc ?_ (by first | omega | (simp; done) | (simp; omega)) _ | refine Below.setCell ?_ (by first | omega | (simp; done) | (simp; omega)) _ | refine Below.drew ?_)⟩

end Go.Proofs.Ytjomgjlicfoehaa
