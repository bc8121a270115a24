import Derived.Test.YtjomgjlicfoehaaIsoG
namespace Go.Proofs.Ytjomgjlicfoehaa
open Go.RowKit Flt
attribute [local go_sem] run_store_float run_store_complex unary_neg_float unary_neg_complex
set_option linter.unusedSimpArgs false
set_option linter.unusedVariables false

theorem results_tmp4 {fn : Func} {t u v x : Tmp} (h : fn.results = #[.tmp t, .tmp u, .tmp v, .tmp x]) (tmps : Array Value) (P : Program) (w : World) :
    (results fn tmps).run P w = .ok (.tuple #[tmps.getD t undef, tmps.getD u undef, tmps.getD v undef, tmps.getD x undef]) w := by simp [results, h]

def noParts : Value := .tuple #[.int .i64 0, .int .i64 0, .int .i64 0, .bool false]

set_option maxHeartbeats 1000000 in
theorem parts_yes_false {a b c d k : Nat} {x y : Int} (h : IsMap a b c d k x y) (w : World) :
    Calls Try.prog 59 #[isoV a b false c d] w fun e w' => e = .returned (.tuple #[.int .i64 (linN k false), .int .i64 x, .int .i64 y, .bool true]) ∧ Below w.heap.size w w' := by
  have hk := h.turn.1
  have K10 := fun W => rquarters_yes h.turn W
  have K1 := Lib.hid K10
  clear K10
  have K20 := fun W => rwhole_yes h.x W
  have K2 := Lib.hid K20
  clear K20
  have K30 := fun W => rwhole_yes h.y W
  have K3 := Lib.hid K30
  clear K30
  clear h
  go_enter Try.func59, Try.ntmps59
  go_wp2_with fail
  refine (K1.out _).mono ?_
  rintro e w1 ⟨rfl, hb⟩
  obtain ⟨hc1, hf1⟩ := bcell hb
  have hs1 : w.heap.size ≤ w1.heap.size := by have := hb.size; (try simp at this); omega
  have hz1_0 : w.heap.size < w1.heap.size := by have := hb.size; (try simp at this); omega
  have hB1 := Lib.hid (below_then (B := w.heap.size) (w := w) (by repeat (first | exact Below.refl _ _ | refine Below.alloc ?_ (by first | omega | (simp; done) | (simp; omega)) _ | refine Below.setCell ?_ (by first | omega | (simp; done) | (simp; omega)) _ | refine Below.drew ?_)) hb (by first | omega | (simp; done) | (simp; omega)))
  clear hb
  go_wp2_with fail
  refine (K2.out _).mono ?_
  rintro e w0 ⟨rfl, rfl⟩
  go_wp2_with fail
  refine (K3.out _).mono ?_
  rintro e w0 ⟨rfl, rfl⟩
  go_wp2
  refine bodyPost_ret (results_tmp4 rfl _ _ _) rfl ?_
  exact ⟨rfl, by repeat (first | exact Below.refl _ _ | exact hB1.out | refine Below.alloc ?_ (by first | omega | (simp; done) | (simp; omega)) _ | refine Below.setCell ?_ (by first | omega | (simp; done) | (simp; omega)) _ | refine Below.drew ?_)⟩

set_option maxHeartbeats 1000000 in
theorem parts_yes_true {a b c d k : Nat} {x y : Int} (h : IsMap a b c d k x y) (w : World) :
    Calls Try.prog 59 #[isoV a b true c d] w fun e w' => e = .returned (.tuple #[.int .i64 (linN k true), .int .i64 x, .int .i64 y, .bool true]) ∧ Below w.heap.size w w' := by
  have hk := h.turn.1
  have K10 := fun W => rquarters_yes h.turn W
  have K1 := Lib.hid K10
  clear K10
  have K20 := fun W => rwhole_yes h.x W
  have K2 := Lib.hid K20
  clear K20
  have K30 := fun W => rwhole_yes h.y W
  have K3 := Lib.hid K30
  clear K30
  clear h
  go_enter Try.func59, Try.ntmps59
  go_wp2_with fail
  refine (K1.out _).mono ?_
  rintro e w1 ⟨rfl, hb⟩
  obtain ⟨hc1, hf1⟩ := bcell hb
  have hs1 : w.heap.size ≤ w1.heap.size := by have := hb.size; (try simp at this); omega
  have hz1_0 : w.heap.size < w1.heap.size := by have := hb.size; (try simp at this); omega
  have hB1 := Lib.hid (below_then (B := w.heap.size) (w := w) (by repeat (first | exact Below.refl _ _ | refine Below.alloc ?_ (by first | omega | (simp; done) | (simp; omega)) _ | refine Below.setCell ?_ (by first | omega | (simp; done) | (simp; omega)) _ | refine Below.drew ?_)) hb (by first | omega | (simp; done) | (simp; omega)))
  clear hb
  go_wp2_with fail
  refine (K2.out _).mono ?_
  rintro e w0 ⟨rfl, rfl⟩
  go_wp2_with fail
  refine (K3.out _).mono ?_
  rintro e w0 ⟨rfl, rfl⟩
  go_wp2
  refine bodyPost_ret (results_tmp4 rfl _ _ _) rfl ?_
  exact ⟨rfl, by repeat (first | exact Below.refl _ _ | exact hB1.out | refine Below.alloc ?_ (by first | omega | (simp; done) | (simp; omega)) _ | refine Below.setCell ?_ (by first | omega | (simp; done) | (simp; omega)) _ | refine Below.drew ?_)⟩

theorem parts_yes {a b c d k : Nat} {x y : Int} (f : Bool) (h : IsMap a b c d k x y) (w : World) :
    Calls Try.prog 59 #[isoV a b f c d] w fun e w' => e = .returned (.tuple #[.int .i64 (linN k f), .int .i64 x, .int .i64 y, .bool true]) ∧ Below w.heap.size w w' := by
  cases f
  · exact parts_yes_false h w
  · exact parts_yes_true h w

set_option maxHeartbeats 1000000 in
theorem parts_no_yyn {a b c d : Nat} {k : Nat} {x : Int} (f : Bool) (hw : Wide a b c d) (ht : IsTurn a b k) (hx : Fit c x) (hy : ¬ ∃ z, Fit d z) (hk : k < 4) (w : World) :
    Calls Try.prog 59 #[isoV a b f c d] w fun e w' => e = .returned noParts ∧ Below w.heap.size w w' := by
  have K10 := fun W => rquarters_yes ht W
  have K1 := Lib.hid K10
  clear K10
  have K20 := fun W => rwhole_yes hx W
  have K2 := Lib.hid K20
  clear K20
  have K30 := fun W => rwhole_no hw.2.2.2 hy W
  have K3 := Lib.hid K30
  clear K30
  clear hw ht hx hy
  go_enter Try.func59, Try.ntmps59
  go_wp2_with fail
  refine (K1.out _).mono ?_
  rintro e w1 ⟨rfl, hb⟩
  obtain ⟨hc1, hf1⟩ := bcell hb
  have hs1 : w.heap.size ≤ w1.heap.size := by have := hb.size; (try simp at this); omega
  have hz1_0 : w.heap.size < w1.heap.size := by have := hb.size; (try simp at this); omega
  have hB1 := Lib.hid (below_then (B := w.heap.size) (w := w) (by repeat (first | exact Below.refl _ _ | refine Below.alloc ?_ (by first | omega | (simp; done) | (simp; omega)) _ | refine Below.setCell ?_ (by first | omega | (simp; done) | (simp; omega)) _ | refine Below.drew ?_)) hb (by first | omega | (simp; done) | (simp; omega)))
  clear hb
  go_wp2_with fail
  refine (K2.out _).mono ?_
  rintro e w0 ⟨rfl, rfl⟩
  go_wp2_with fail
  refine (K3.out _).mono ?_
  rintro e w0 ⟨t1, rfl, rfl⟩
  go_wp2
  refine bodyPost_ret (results_tmp4 rfl _ _ _) rfl ?_
  exact ⟨rfl, by repeat (first | exact Below.refl _ _ | exact hB1.out | refine Below.alloc ?_ (by first | omega | (simp; done) | (simp; omega)) _ | refine Below.setCell ?_ (by first | omega | (simp; done) | (simp; omega)) _ | refine Below.drew ?_)⟩

set_option maxHeartbeats 1000000 in
theorem parts_no_yny {a b c d : Nat} {k : Nat} {y : Int} (f : Bool) (hw : Wide a b c d) (ht : IsTurn a b k) (hx : ¬ ∃ z, Fit c z) (hy : Fit d y) (hk : k < 4) (w : World) :
    Calls Try.prog 59 #[isoV a b f c d] w fun e w' => e = .returned noParts ∧ Below w.heap.size w w' := by
  have K10 := fun W => rquarters_yes ht W
  have K1 := Lib.hid K10
  clear K10
  have K20 := fun W => rwhole_no hw.2.2.1 hx W
  have K2 := Lib.hid K20
  clear K20
  have K30 := fun W => rwhole_yes hy W
  have K3 := Lib.hid K30
  clear K30
  clear hw ht hx hy
  go_enter Try.func59, Try.ntmps59
  go_wp2_with fail
  refine (K1.out _).mono ?_
  rintro e w1 ⟨rfl, hb⟩
  obtain ⟨hc1, hf1⟩ := bcell hb
  have hs1 : w.heap.size ≤ w1.heap.size := by have := hb.size; (try simp at this); omega
  have hz1_0 : w.heap.size < w1.heap.size := by have := hb.size; (try simp at this); omega
  have hB1 := Lib.hid (below_then (B := w.heap.size) (w := w) (by repeat (first | exact Below.refl _ _ | refine Below.alloc ?_ (by first | omega | (simp; done) | (simp; omega)) _ | refine Below.setCell ?_ (by first | omega | (simp; done) | (simp; omega)) _ | refine Below.drew ?_)) hb (by first | omega | (simp; done) | (simp; omega)))
  clear hb
  go_wp2_with fail
  refine (K2.out _).mono ?_
  rintro e w0 ⟨t0, rfl, rfl⟩
  go_wp2_with fail
  refine (K3.out _).mono ?_
  rintro e w0 ⟨rfl, rfl⟩
  go_wp2
  refine bodyPost_ret (results_tmp4 rfl _ _ _) rfl ?_
  exact ⟨rfl, by repeat (first | exact Below.refl _ _ | exact hB1.out | refine Below.alloc ?_ (by first | omega | (simp; done) | (simp; omega)) _ | refine Below.setCell ?_ (by first | omega | (simp; done) | (simp; omega)) _ | refine Below.drew ?_)⟩

set_option maxHeartbeats 1000000 in
theorem parts_no_ynn {a b c d : Nat} {k : Nat} (f : Bool) (hw : Wide a b c d) (ht : IsTurn a b k) (hx : ¬ ∃ z, Fit c z) (hy : ¬ ∃ z, Fit d z) (hk : k < 4) (w : World) :
    Calls Try.prog 59 #[isoV a b f c d] w fun e w' => e = .returned noParts ∧ Below w.heap.size w w' := by
  have K10 := fun W => rquarters_yes ht W
  have K1 := Lib.hid K10
  clear K10
  have K20 := fun W => rwhole_no hw.2.2.1 hx W
  have K2 := Lib.hid K20
  clear K20
  have K30 := fun W => rwhole_no hw.2.2.2 hy W
  have K3 := Lib.hid K30
  clear K30
  clear hw ht hx hy
  go_enter Try.func59, Try.ntmps59
  go_wp2_with fail
  refine (K1.out _).mono ?_
  rintro e w1 ⟨rfl, hb⟩
  obtain ⟨hc1, hf1⟩ := bcell hb
  have hs1 : w.heap.size ≤ w1.heap.size := by have := hb.size; (try simp at this); omega
  have hz1_0 : w.heap.size < w1.heap.size := by have := hb.size; (try simp at this); omega
  have hB1 := Lib.hid (below_then (B := w.heap.size) (w := w) (by repeat (first | exact Below.refl _ _ | refine Below.alloc ?_ (by first | omega | (simp; done) | (simp; omega)) _ | refine Below.setCell ?_ (by first | omega | (simp; done) | (simp; omega)) _ | refine Below.drew ?_)) hb (by first | omega | (simp; done) | (simp; omega)))
  clear hb
  go_wp2_with fail
  refine (K2.out _).mono ?_
  rintro e w0 ⟨t0, rfl, rfl⟩
  go_wp2_with fail
  refine (K3.out _).mono ?_
  rintro e w0 ⟨t1, rfl, rfl⟩
  go_wp2
  refine bodyPost_ret (results_tmp4 rfl _ _ _) rfl ?_
  exact ⟨rfl, by repeat (first | exact Below.refl _ _ | exact hB1.out | refine Below.alloc ?_ (by first | omega | (simp; done) | (simp; omega)) _ | refine Below.setCell ?_ (by first | omega | (simp; done) | (simp; omega)) _ | refine Below.drew ?_)⟩

set_option maxHeartbeats 1000000 in
theorem parts_no_nyy {a b c d : Nat} {x : Int} {y : Int} (f : Bool) (hw : Wide a b c d) (ht : ¬ ∃ k, IsTurn a b k) (hx : Fit c x) (hy : Fit d y) (w : World) :
    Calls Try.prog 59 #[isoV a b f c d] w fun e w' => e = .returned noParts ∧ Below w.heap.size w w' := by
  have K10 := fun W => rquarters_no hw.1 hw.2.1 ht W
  have K1 := Lib.hid K10
  clear K10
  have K20 := fun W => rwhole_yes hx W
  have K2 := Lib.hid K20
  clear K20
  have K30 := fun W => rwhole_yes hy W
  have K3 := Lib.hid K30
  clear K30
  clear hw ht hx hy
  go_enter Try.func59, Try.ntmps59
  go_wp2_with fail
  refine (K1.out _).mono ?_
  rintro e w1 ⟨rfl, hb⟩
  obtain ⟨hc1, hf1⟩ := bcell hb
  have hs1 : w.heap.size ≤ w1.heap.size := by have := hb.size; (try simp at this); omega
  have hz1_0 : w.heap.size < w1.heap.size := by have := hb.size; (try simp at this); omega
  have hB1 := Lib.hid (below_then (B := w.heap.size) (w := w) (by repeat (first | exact Below.refl _ _ | refine Below.alloc ?_ (by first | omega | (simp; done) | (simp; omega)) _ | refine Below.setCell ?_ (by first | omega | (simp; done) | (simp; omega)) _ | refine Below.drew ?_)) hb (by first | omega | (simp; done) | (simp; omega)))
  clear hb
  go_wp2_with fail
  refine (K2.out _).mono ?_
  rintro e w0 ⟨rfl, rfl⟩
  go_wp2_with fail
  refine (K3.out _).mono ?_
  rintro e w0 ⟨rfl, rfl⟩
  go_wp2
  refine bodyPost_ret (results_tmp4 rfl _ _ _) rfl ?_
  exact ⟨rfl, by repeat (first | exact Below.refl _ _ | exact hB1.out | refine Below.alloc ?_ (by first | omega | (simp; done) | (simp; omega)) _ | refine Below.setCell ?_ (by first | omega | (simp; done) | (simp; omega)) _ | refine Below.drew ?_)⟩

set_option maxHeartbeats 1000000 in
theorem parts_no_nyn {a b c d : Nat} {x : Int} (f : Bool) (hw : Wide a b c d) (ht : ¬ ∃ k, IsTurn a b k) (hx : Fit c x) (hy : ¬ ∃ z, Fit d z) (w : World) :
    Calls Try.prog 59 #[isoV a b f c d] w fun e w' => e = .returned noParts ∧ Below w.heap.size w w' := by
  have K10 := fun W => rquarters_no hw.1 hw.2.1 ht W
  have K1 := Lib.hid K10
  clear K10
  have K20 := fun W => rwhole_yes hx W
  have K2 := Lib.hid K20
  clear K20
  have K30 := fun W => rwhole_no hw.2.2.2 hy W
  have K3 := Lib.hid K30
  clear K30
  clear hw ht hx hy
  go_enter Try.func59, Try.ntmps59
  go_wp2_with fail
  refine (K1.out _).mono ?_
  rintro e w1 ⟨rfl, hb⟩
  obtain ⟨hc1, hf1⟩ := bcell hb
  have hs1 : w.heap.size ≤ w1.heap.size := by have := hb.size; (try simp at this); omega
  have hz1_0 : w.heap.size < w1.heap.size := by have := hb.size; (try simp at this); omega
  have hB1 := Lib.hid (below_then (B := w.heap.size) (w := w) (by repeat (first | exact Below.refl _ _ | refine Below.alloc ?_ (by first | omega | (simp; done) | (simp; omega)) _ | refine Below.setCell ?_ (by first | omega | (simp; done) | (simp; omega)) _ | refine Below.drew ?_)) hb (by first | omega | (simp; done) | (simp; omega)))
  clear hb
  go_wp2_with fail
  refine (K2.out _).mono ?_
  rintro e w0 ⟨rfl, rfl⟩
  go_wp2_with fail
  refine (K3.out _).mono ?_
  rintro e w0 ⟨t1, rfl, rfl⟩
  go_wp2
  refine bodyPost_ret (results_tmp4 rfl _ _ _) rfl ?_
  exact ⟨rfl, by repeat (first | exact Below.refl _ _ | exact hB1.out | refine Below.alloc ?_ (by first | omega | (simp; done) | (simp; omega)) _ | refine Below.setCell ?_ (by first | omega | (simp; done) | (simp; omega)) _ | refine Below.drew ?_)⟩

set_option maxHeartbeats 1000000 in
theorem parts_no_nny {a b c d : Nat} {y : Int} (f : Bool) (hw : Wide a b c d) (ht : ¬ ∃ k, IsTurn a b k) (hx : ¬ ∃ z, Fit c z) (hy : Fit d y) (w : World) :
    Calls Try.prog 59 #[isoV a b f c d] w fun e w' => e = .returned noParts ∧ Below w.heap.size w w' := by
  have K10 := fun W => rquarters_no hw.1 hw.2.1 ht W
  have K1 := Lib.hid K10
  clear K10
  have K20 := fun W => rwhole_no hw.2.2.1 hx W
  have K2 := Lib.hid K20
  clear K20
  have K30 := fun W => rwhole_yes hy W
  have K3 := Lib.hid K30
  clear K30
  clear hw ht hx hy
  go_enter Try.func59, Try.ntmps59
  go_wp2_with fail
  refine (K1.out _).mono ?_
  rintro e w1 ⟨rfl, hb⟩
  obtain ⟨hc1, hf1⟩ := bcell hb
  have hs1 : w.heap.size ≤ w1.heap.size := by have := hb.size; (try simp at this); omega
  have hz1_0 : w.heap.size < w1.heap.size := by have := hb.size; (try simp at this); omega
  have hB1 := Lib.hid (below_then (B := w.heap.size) (w := w) (by repeat (first | exact Below.refl _ _ | refine Below.alloc ?_ (by first | omega | (simp; done) | (simp; omega)) _ | refine Below.setCell ?_ (by first | omega | (simp; done) | (simp; omega)) _ | refine Below.drew ?_)) hb (by first | omega | (simp; done) | (simp; omega)))
  clear hb
  go_wp2_with fail
  refine (K2.out _).mono ?_
  rintro e w0 ⟨t0, rfl, rfl⟩
  go_wp2_with fail
  refine (K3.out _).mono ?_
  rintro e w0 ⟨rfl, rfl⟩
  go_wp2
  refine bodyPost_ret (results_tmp4 rfl _ _ _) rfl ?_
  exact ⟨rfl, by repeat (first | exact Below.refl _ _ | exact hB1.out | refine Below.alloc ?_ (by first | omega | (simp; done) | (simp; omega)) _ | refine Below.setCell ?_ (by first | omega | (simp; done) | (simp; omega)) _ | refine Below.drew ?_)⟩

set_option maxHeartbeats 1000000 in
theorem parts_no_nnn {a b c d : Nat} (f : Bool) (hw : Wide a b c d) (ht : ¬ ∃ k, IsTurn a b k) (hx : ¬ ∃ z, Fit c z) (hy : ¬ ∃ z, Fit d z) (w : World) :
    Calls Try.prog 59 #[isoV a b f c d] w fun e w' => e = .returned noParts ∧ Below w.heap.size w w' := by
  have K10 := fun W => rquarters_no hw.1 hw.2.1 ht W
  have K1 := Lib.hid K10
  clear K10
  have K20 := fun W => rwhole_no hw.2.2.1 hx W
  have K2 := Lib.hid K20
  clear K20
  have K30 := fun W => rwhole_no hw.2.2.2 hy W
  have K3 := Lib.hid K30
  clear K30
  clear hw ht hx hy
  go_enter Try.func59, Try.ntmps59
  go_wp2_with fail
  refine (K1.out _).mono ?_
  rintro e w1 ⟨rfl, hb⟩
  obtain ⟨hc1, hf1⟩ := bcell hb
  have hs1 : w.heap.size ≤ w1.heap.size := by have := hb.size; (try simp at this); omega
  have hz1_0 : w.heap.size < w1.heap.size := by have := hb.size; (try simp at this); omega
  have hB1 := Lib.hid (below_then (B := w.heap.size) (w := w) (by repeat (first | exact Below.refl _ _ | refine Below.alloc ?_ (by first | omega | (simp; done) | (simp; omega)) _ | refine Below.setCell ?_ (by first | omega | (simp; done) | (simp; omega)) _ | refine Below.drew ?_)) hb (by first | omega | (simp; done) | (simp; omega)))
  clear hb
  go_wp2_with fail
  refine (K2.out _).mono ?_
  rintro e w0 ⟨t0, rfl, rfl⟩
  go_wp2_with fail
  refine (K3.out _).mono ?_
  rintro e w0 ⟨t1, rfl, rfl⟩
  go_wp2
  refine bodyPost_ret (results_tmp4 rfl _ _ _) rfl ?_
  exact ⟨rfl, by repeat (first | exact Below.refl _ _ | exact hB1.out | refine Below.alloc ?_ (by first | omega | (simp; done) | (simp; omega)) _ | refine Below.setCell ?_ (by first | omega | (simp; done) | (simp; omega)) _ | refine Below.drew ?_)⟩

theorem parts_no {a b c d : Nat} (f : Bool) (hw : Wide a b c d) (h : ¬ ∃ k x y, IsMap a b c d k x y) (w : World) :
    Calls Try.prog 59 #[isoV a b f c d] w fun e w' => e = .returned noParts ∧ Below w.heap.size w w' := by
  by_cases ht : ∃ k, IsTurn a b k
  · obtain ⟨k, ht⟩ := ht
    by_cases hx : ∃ z, Fit c z
    · obtain ⟨x, hx⟩ := hx
      by_cases hy : ∃ z, Fit d z
      · obtain ⟨y, hy⟩ := hy
        exact absurd ⟨k, x, y, ht, hx, hy⟩ h
      · exact parts_no_yyn f hw ht hx hy ht.1 w
    · by_cases hy : ∃ z, Fit d z
      · obtain ⟨y, hy⟩ := hy
        exact parts_no_yny f hw ht hx hy ht.1 w
      · exact parts_no_ynn f hw ht hx hy ht.1 w
  · by_cases hx : ∃ z, Fit c z
    · obtain ⟨x, hx⟩ := hx
      by_cases hy : ∃ z, Fit d z
      · obtain ⟨y, hy⟩ := hy
        exact parts_no_nyy f hw ht hx hy w
      · exact parts_no_nyn f hw ht hx hy w
    · by_cases hy : ∃ z, Fit d z
      · obtain ⟨y, hy⟩ := hy
        exact parts_no_nny f hw ht hx hy w
      · exact parts_no_nnn f hw ht hx hy w

/-! ### Near, Linear -/
def nr (x : Int) : Bool := decide (-1099511627776 ≤ x ∧ x ≤ 1099511627776)
theorem nearB_nr (x y : Int) : nearB x y = (nr x && nr y) := by unfold nearB nr; rw [Bool.eq_iff_iff]; simp; omega
set_option maxHeartbeats 400000 in
theorem rnear (x : Int) (w : World) : Calls Try.prog 60 #[.int .i64 x] w fun e w' => e = .returned (.bool (nr x)) ∧ w = w' := by
  by_cases h1 : -1099511627776 ≤ x
  · by_cases h2 : x ≤ 1099511627776
    · have : nr x = true := by unfold nr; simp; omega
      rw [this]
      go_enter Try.func60, Try.ntmps60
      go_wp2
      go_ret
      exact ⟨by simp, rfl⟩
    · have : nr x = false := by unfold nr; simp; omega
      rw [this]
      go_enter Try.func60, Try.ntmps60
      go_wp2
      go_ret
      exact ⟨by simp, rfl⟩
  · have : nr x = false := by unfold nr; simp; omega
    rw [this]
    go_enter Try.func60, Try.ntmps60
    go_wp2
    go_ret
    exact ⟨by simp, rfl⟩

theorem ret_int2 {a b c d : Int} (h1 : a = c) (h2 : b = d) : Ending.returned (.tuple #[.int .i64 a, .int .i64 b]) = .returned (.tuple #[.int .i64 c, .int .i64 d]) := by rw [h1, h2]

set_option maxHeartbeats 2000000 in
theorem linear0 {x y : Int} (h1 : -4398046511104 ≤ x) (h2 : x ≤ 4398046511104) (h3 : -4398046511104 ≤ y) (h4 : y ≤ 4398046511104) (w : World) :
    Calls Try.prog 61 #[.int .i64 0, .int .i64 x, .int .i64 y] w fun e w' => e = .returned (.tuple #[.int .i64 (dox 0 false 0 x y), .int .i64 (doy 0 false 0 x y)]) ∧ w = w' := by
  have i1 : -4398046511104 ≤ -x := by omega
  have i2 : -x ≤ 4398046511104 := by omega
  have i3 : -4398046511104 ≤ -y := by omega
  have i4 : -y ≤ 4398046511104 := by omega
  go_enter Try.func61, Try.ntmps61
  go_wp2
  refine wp_loop_rounds 1 ?_
  repeat any_goals (rw [rounds_succ]; go_wp2)
  go_ret2
  exact ⟨ret_int2 (by simp [dox, tvx, tvy, fl]) (by simp [doy, tvx, tvy, fl]), rfl⟩

set_option maxHeartbeats 2000000 in
theorem linear1 {x y : Int} (h1 : -4398046511104 ≤ x) (h2 : x ≤ 4398046511104) (h3 : -4398046511104 ≤ y) (h4 : y ≤ 4398046511104) (w : World) :
    Calls Try.prog 61 #[.int .i64 1, .int .i64 x, .int .i64 y] w fun e w' => e = .returned (.tuple #[.int .i64 (dox 1 false 0 x y), .int .i64 (doy 1 false 0 x y)]) ∧ w = w' := by
  have i1 : -4398046511104 ≤ -x := by omega
  have i2 : -x ≤ 4398046511104 := by omega
  have i3 : -4398046511104 ≤ -y := by omega
  have i4 : -y ≤ 4398046511104 := by omega
  go_enter Try.func61, Try.ntmps61
  go_wp2
  refine wp_loop_rounds 2 ?_
  repeat any_goals (rw [rounds_succ]; go_wp2)
  go_ret2
  exact ⟨ret_int2 (by simp [dox, tvx, tvy, fl]) (by simp [doy, tvx, tvy, fl]), rfl⟩

set_option maxHeartbeats 2000000 in
theorem linear2 {x y : Int} (h1 : -4398046511104 ≤ x) (h2 : x ≤ 4398046511104) (h3 : -4398046511104 ≤ y) (h4 : y ≤ 4398046511104) (w : World) :
    Calls Try.prog 61 #[.int .i64 2, .int .i64 x, .int .i64 y] w fun e w' => e = .returned (.tuple #[.int .i64 (dox 2 false 0 x y), .int .i64 (doy 2 false 0 x y)]) ∧ w = w' := by
  have i1 : -4398046511104 ≤ -x := by omega
  have i2 : -x ≤ 4398046511104 := by omega
  have i3 : -4398046511104 ≤ -y := by omega
  have i4 : -y ≤ 4398046511104 := by omega
  go_enter Try.func61, Try.ntmps61
  go_wp2
  refine wp_loop_rounds 3 ?_
  repeat any_goals (rw [rounds_succ]; go_wp2)
  go_ret2
  exact ⟨ret_int2 (by simp [dox, tvx, tvy, fl]) (by simp [doy, tvx, tvy, fl]), rfl⟩

set_option maxHeartbeats 2000000 in
theorem linear3 {x y : Int} (h1 : -4398046511104 ≤ x) (h2 : x ≤ 4398046511104) (h3 : -4398046511104 ≤ y) (h4 : y ≤ 4398046511104) (w : World) :
    Calls Try.prog 61 #[.int .i64 3, .int .i64 x, .int .i64 y] w fun e w' => e = .returned (.tuple #[.int .i64 (dox 3 false 0 x y), .int .i64 (doy 3 false 0 x y)]) ∧ w = w' := by
  have i1 : -4398046511104 ≤ -x := by omega
  have i2 : -x ≤ 4398046511104 := by omega
  have i3 : -4398046511104 ≤ -y := by omega
  have i4 : -y ≤ 4398046511104 := by omega
  go_enter Try.func61, Try.ntmps61
  go_wp2
  refine wp_loop_rounds 4 ?_
  repeat any_goals (rw [rounds_succ]; go_wp2)
  go_ret2
  exact ⟨ret_int2 (by simp [dox, tvx, tvy, fl]) (by simp [doy, tvx, tvy, fl]), rfl⟩

set_option maxHeartbeats 2000000 in
theorem linear4 {x y : Int} (h1 : -4398046511104 ≤ x) (h2 : x ≤ 4398046511104) (h3 : -4398046511104 ≤ y) (h4 : y ≤ 4398046511104) (w : World) :
    Calls Try.prog 61 #[.int .i64 4, .int .i64 x, .int .i64 y] w fun e w' => e = .returned (.tuple #[.int .i64 (dox 0 true 0 x y), .int .i64 (doy 0 true 0 x y)]) ∧ w = w' := by
  have i1 : -4398046511104 ≤ -x := by omega
  have i2 : -x ≤ 4398046511104 := by omega
  have i3 : -4398046511104 ≤ -y := by omega
  have i4 : -y ≤ 4398046511104 := by omega
  go_enter Try.func61, Try.ntmps61
  go_wp2
  refine wp_loop_rounds 1 ?_
  repeat any_goals (rw [rounds_succ]; go_wp2)
  go_ret2
  exact ⟨ret_int2 (by simp [dox, tvx, tvy, fl]) (by simp [doy, tvx, tvy, fl]), rfl⟩

set_option maxHeartbeats 2000000 in
theorem linear5 {x y : Int} (h1 : -4398046511104 ≤ x) (h2 : x ≤ 4398046511104) (h3 : -4398046511104 ≤ y) (h4 : y ≤ 4398046511104) (w : World) :
    Calls Try.prog 61 #[.int .i64 5, .int .i64 x, .int .i64 y] w fun e w' => e = .returned (.tuple #[.int .i64 (dox 1 true 0 x y), .int .i64 (doy 1 true 0 x y)]) ∧ w = w' := by
  have i1 : -4398046511104 ≤ -x := by omega
  have i2 : -x ≤ 4398046511104 := by omega
  have i3 : -4398046511104 ≤ -y := by omega
  have i4 : -y ≤ 4398046511104 := by omega
  go_enter Try.func61, Try.ntmps61
  go_wp2
  refine wp_loop_rounds 2 ?_
  repeat any_goals (rw [rounds_succ]; go_wp2)
  go_ret2
  exact ⟨ret_int2 (by simp [dox, tvx, tvy, fl]) (by simp [doy, tvx, tvy, fl]), rfl⟩

set_option maxHeartbeats 2000000 in
theorem linear6 {x y : Int} (h1 : -4398046511104 ≤ x) (h2 : x ≤ 4398046511104) (h3 : -4398046511104 ≤ y) (h4 : y ≤ 4398046511104) (w : World) :
    Calls Try.prog 61 #[.int .i64 6, .int .i64 x, .int .i64 y] w fun e w' => e = .returned (.tuple #[.int .i64 (dox 2 true 0 x y), .int .i64 (doy 2 true 0 x y)]) ∧ w = w' := by
  have i1 : -4398046511104 ≤ -x := by omega
  have i2 : -x ≤ 4398046511104 := by omega
  have i3 : -4398046511104 ≤ -y := by omega
  have i4 : -y ≤ 4398046511104 := by omega
  go_enter Try.func61, Try.ntmps61
  go_wp2
  refine wp_loop_rounds 3 ?_
  repeat any_goals (rw [rounds_succ]; go_wp2)
  go_ret2
  exact ⟨ret_int2 (by simp [dox, tvx, tvy, fl]) (by simp [doy, tvx, tvy, fl]), rfl⟩

set_option maxHeartbeats 2000000 in
theorem linear7 {x y : Int} (h1 : -4398046511104 ≤ x) (h2 : x ≤ 4398046511104) (h3 : -4398046511104 ≤ y) (h4 : y ≤ 4398046511104) (w : World) :
    Calls Try.prog 61 #[.int .i64 7, .int .i64 x, .int .i64 y] w fun e w' => e = .returned (.tuple #[.int .i64 (dox 3 true 0 x y), .int .i64 (doy 3 true 0 x y)]) ∧ w = w' := by
  have i1 : -4398046511104 ≤ -x := by omega
  have i2 : -x ≤ 4398046511104 := by omega
  have i3 : -4398046511104 ≤ -y := by omega
  have i4 : -y ≤ 4398046511104 := by omega
  go_enter Try.func61, Try.ntmps61
  go_wp2
  refine wp_loop_rounds 4 ?_
  repeat any_goals (rw [rounds_succ]; go_wp2)
  go_ret2
  exact ⟨ret_int2 (by simp [dox, tvx, tvy, fl]) (by simp [doy, tvx, tvy, fl]), rfl⟩

theorem linear {k : Nat} (f : Bool) (hk : k < 4) {x y : Int} (hx : x.natAbs ≤ 4398046511104) (hy : y.natAbs ≤ 4398046511104) (w : World) :
    Calls Try.prog 61 #[.int .i64 (linN k f), .int .i64 x, .int .i64 y] w fun e w' => e = .returned (.tuple #[.int .i64 (dox k f 0 x y), .int .i64 (doy k f 0 x y)]) ∧ w = w' := by
  have h1 : -4398046511104 ≤ x := by omega
  have h2 : x ≤ 4398046511104 := by omega
  have h3 : -4398046511104 ≤ y := by omega
  have h4 : y ≤ 4398046511104 := by omega
  match k, f, hk with

  | 0, false, _ => exact linear0 h1 h2 h3 h4 w
  | 1, false, _ => exact linear1 h1 h2 h3 h4 w
  | 2, false, _ => exact linear2 h1 h2 h3 h4 w
  | 3, false, _ => exact linear3 h1 h2 h3 h4 w
  | 0, true, _ => exact linear4 h1 h2 h3 h4 w
  | 1, true, _ => exact linear5 h1 h2 h3 h4 w
  | 2, true, _ => exact linear6 h1 h2 h3 h4 w
  | 3, true, _ => exact linear7 h1 h2 h3 h4 w

end Go.Proofs.Ytjomgjlicfoehaa
