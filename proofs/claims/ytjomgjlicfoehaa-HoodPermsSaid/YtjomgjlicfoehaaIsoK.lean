import Derived.Test.YtjomgjlicfoehaaIsoJ
namespace Go.Proofs.Ytjomgjlicfoehaa
open Go.RowKit Flt
attribute [local go_sem] run_store_float run_store_complex unary_neg_float unary_neg_complex
set_option linter.unusedSimpArgs false
set_option linter.unusedVariables false

theorem bits_call (b : Nat) (w : World) : (callFunc 76 #[.float .f64 b]).run Try.prog w = .ok (.value (.int .u64 b)) w :=
  run_callFunc_extern (P := Try.prog) (f := 76) (fn := Try.f76) (e := Extern.MathFloatBits.float64bits) rfl (by kernel_rfl) rfl (by kernel_rfl) (by kernel_rfl) #[.float .f64 b] w

set_option maxHeartbeats 400000 in
theorem signbit0 (w : World) : Calls Try.prog 75 #[.float .f64 0] w fun e w' => e = .returned (.bool false) ∧ w = w' := by
  have hb := bits_call
  go_enter Try.func75, Try.ntmps75
  go_wp2
  go_ret
  exact ⟨rfl, rfl⟩

set_option maxHeartbeats 400000 in
theorem nought_F (z : Int) (h : z.natAbs < 9007199254740992) (w : World) : Calls Try.prog 66 #[.float .f64 (F z)] w fun e w' => e = .returned (.bool true) ∧ w = w' := by
  by_cases h0 : z = 0
  · subst h0
    rw [F_zero]
    have h1 : (FloatKind.f64.format.order 0 0 == some .eq) = true := by rw [eq_int isInt_zero isInt_zero]; rfl
    have h2 : (FloatKind.f64.format.order 0 0 != some .eq) = false := by rw [bne, h1]; rfl
    clear h
    go_enter Try.func66, Try.ntmps66
    go_wp2_with fail
    refine (signbit0 _).mono ?_
    rintro e w0 ⟨rfl, rfl⟩
    go_wp2
    go_ret
    exact ⟨rfl, rfl⟩
  · have h1 : (FloatKind.f64.format.order (F z) 0 == some .eq) = false := by rw [eq_int (isInt_F z h) isInt_zero]; simpa using h0
    have h2 : (FloatKind.f64.format.order (F z) 0 != some .eq) = true := by rw [bne, h1]; rfl
    clear h h0
    generalize F z = x at *
    go_enter Try.func66, Try.ntmps66
    go_wp2
    go_ret
    exact ⟨rfl, rfl⟩

set_option maxHeartbeats 1000000 in
theorem lclean_F {p q x y : Int} (f : Bool) (hp : p.natAbs < 9007199254740992) (hq : q.natAbs < 9007199254740992) (hx : x.natAbs < 9007199254740992) (hy : y.natAbs < 9007199254740992) (w : World) :
    Calls Try.prog 35 #[isoV (F p) (F q) f (F x) (F y)] w fun e w' => e = .returned (.bool true) ∧ Below w.heap.size w w' := by
  have K10 := fun W => nought_F p hp W
  have K1 := Lib.hid K10
  clear K10
  have K20 := fun W => nought_F q hq W
  have K2 := Lib.hid K20
  clear K20
  have K30 := fun W => nought_F x hx W
  have K3 := Lib.hid K30
  clear K30
  have K40 := fun W => nought_F y hy W
  have K4 := Lib.hid K40
  clear K40
  clear hp hq hx hy
  generalize F p = a at *
  generalize F q = b at *
  generalize F x = c at *
  generalize F y = d at *
  go_enter Try.func35, Try.ntmps35
  go_wp2_with fail
  refine (K1.out _).mono ?_
  rintro e w0 ⟨rfl, rfl⟩
  go_wp2_with fail
  refine (K2.out _).mono ?_
  rintro e w0 ⟨rfl, rfl⟩
  go_wp2_with fail
  refine (K3.out _).mono ?_
  rintro e w0 ⟨rfl, rfl⟩
  go_wp2_with fail
  refine (K4.out _).mono ?_
  rintro e w0 ⟨rfl, rfl⟩
  go_wp2
  go_ret
  exact ⟨rfl, by repeat (first | exact Below.refl _ _ | refine Below.alloc ?_ (by first | omega | (simp; done) | (simp; omega)) _ | refine Below.setCell ?_ (by first | omega | (simp; done) | (simp; omega)) _ | refine Below.drew ?_)⟩

theorem lclean_iso {k : Nat} (hk : k < 4) (f : Bool) {x y : Int} (hx : x.natAbs < 9007199254740992) (hy : y.natAbs < 9007199254740992) (w : World) :
    Calls Try.prog 35 #[isoF k f x y] w fun e w' => e = .returned (.bool true) ∧ Below w.heap.size w w' :=
  lclean_F f (by have := tv_abs hk; omega) (by have := tv_abs hk; omega) hx hy w
theorem lclean_zero (w : World) : Calls Try.prog 35 #[isoZero] w fun e w' => e = .returned (.bool true) ∧ Below w.heap.size w w' := by
  have := lclean_F (p := 0) (q := 0) (x := 0) (y := 0) false (by omega) (by omega) (by omega) (by omega) w
  rwa [F_zero] at this

/-! ### The document's maps -/
set_option maxHeartbeats 1000000 in
theorem rmade {k : Nat} (h : k < 8) {x y : Int} (hx : x.natAbs < 9007199254740992) (hy : y.natAbs < 9007199254740992) (w : World) :
    Calls Try.prog 65 #[.int .i64 k, .int .i64 x, .int .i64 y] w fun e w' => e = .returned (isoF (k % 4) (decide (4 ≤ k)) x y) ∧ Below w.heap.size w w' := by
  have K10 := fun W => rturn h W
  have K1 := Lib.hid K10
  clear K10
  have e1 := floatOfInt_F x hx
  have e2 := floatOfInt_F y hy
  have hk : decide ((4 : Int) ≤ (k : Int)) = decide (4 ≤ k) := by rw [decide_eq_decide]; omega
  generalize hd : decide (4 ≤ k) = t at *
  clear hd h hx hy
  unfold isoF
  generalize F (tvx (k % 4)) = a at *
  generalize F (tvy (k % 4)) = b at *
  generalize F x = c at *
  generalize F y = d at *
  go_enter Try.func65, Try.ntmps65
  go_wp2_with fail
  refine (K1.out _).mono ?_
  rintro e w1 ⟨rfl, hb⟩
  obtain ⟨hc1, hf1⟩ := bcell hb
  have hs1 : w.heap.size ≤ w1.heap.size := by have := hb.size; (try simp at this); omega
  have hz1_0 : w.heap.size < w1.heap.size := by have := hb.size; (try simp at this); omega
  have hB1 := Lib.hid (below_then (B := w.heap.size) (w := w) (by repeat (first | exact Below.refl _ _ | refine Below.alloc ?_ (by first | omega | (simp; done) | (simp; omega)) _ | refine Below.setCell ?_ (by first | omega | (simp; done) | (simp; omega)) _ | refine Below.drew ?_)) hb (by first | omega | (simp; done) | (simp; omega)))
  clear hb
  go_wp2
  exact bodyPost_ret (v := isoV a b t c d) (by simp [results, Try.results65, go_sem, hc1, hz1_0]) rfl ⟨rfl, by repeat (first | exact Below.refl _ _ | exact hB1.out | refine Below.alloc ?_ (by first | omega | (simp; done) | (simp; omega)) _ | refine Below.setCell ?_ (by first | omega | (simp; done) | (simp; omega)) _ | refine Below.drew ?_)⟩

theorem rmade_lin {k : Nat} (f : Bool) (hk : k < 4) {x y : Int} (hx : x.natAbs < 9007199254740992) (hy : y.natAbs < 9007199254740992) (w : World) :
    Calls Try.prog 65 #[.int .i64 (linN k f), .int .i64 x, .int .i64 y] w fun e w' => e = .returned (isoF k f x y) ∧ Below w.heap.size w w' := by
  cases f
  · have := rmade (k := k) (by omega) hx hy w
    rw [Nat.mod_eq_of_lt hk, show decide (4 ≤ k) = false from by simp; omega] at this
    exact this
  · have := rmade (k := k + 4) (by omega) hx hy w
    rw [show (k + 4) % 4 = k from by omega, show decide (4 ≤ k + 4) = true from by simp] at this
    have e : linN k true = ((k + 4 : Nat) : Int) := by simp [linN]
    rw [e]
    exact this

set_option maxHeartbeats 1000000 in
theorem rshift_yes {x y : Int} (h1 : nr x = true) (h2 : nr y = true) (w : World) :
    Calls Try.prog 34 #[.int .i64 x, .int .i64 y] w fun e w' => e = .returned (.tuple #[isoF 0 false x y, .int .i64 0]) ∧ Below w.heap.size w w' := by
  have K10 := fun W => rnear_b h1 W
  have K1 := Lib.hid K10
  clear K10
  have K20 := fun W => rnear_b h2 W
  have K2 := Lib.hid K20
  clear K20
  have b1 : x.natAbs < 9007199254740992 := by unfold nr at h1; simp at h1; omega
  have b2 : y.natAbs < 9007199254740992 := by unfold nr at h2; simp at h2; omega
  have K30 : ∀ W, Calls Try.prog 65 #[.int .i64 0, .int .i64 x, .int .i64 y] W fun e w' => e = .returned (isoF 0 false x y) ∧ Below W.heap.size W w' := fun W => rmade (k := 0) (by omega) b1 b2 W
  have K3 := Lib.hid K30
  clear K30 b1 b2 h1 h2
  unfold isoF at *
  generalize F (tvx 0) = a at *
  generalize F (tvy 0) = b at *
  generalize F x = c at *
  generalize F y = d at *
  go_enter Try.func34, Try.ntmps34
  go_wp2_with fail
  refine (K1.out _).mono ?_
  rintro e w0 ⟨rfl, rfl⟩
  go_wp2_with fail
  refine (K2.out _).mono ?_
  rintro e w0 ⟨rfl, rfl⟩
  go_wp2_with fail
  refine (K3.out _).mono ?_
  rintro e w1 ⟨rfl, hb⟩
  obtain ⟨hc1, hf1⟩ := bcell hb
  have hs1 : w.heap.size ≤ w1.heap.size := by have := hb.size; (try simp at this); omega
  have hz1_0 : w.heap.size < w1.heap.size := by have := hb.size; (try simp at this); omega
  have hB1 := Lib.hid (below_then (B := w.heap.size) (w := w) (by repeat (first | exact Below.refl _ _ | refine Below.alloc ?_ (by first | omega | (simp; done) | (simp; omega)) _ | refine Below.setCell ?_ (by first | omega | (simp; done) | (simp; omega)) _ | refine Below.drew ?_)) hb (by first | omega | (simp; done) | (simp; omega)))
  clear hb
  go_wp2
  exact bodyPost_ret (v := .tuple #[isoV a b false c d, .int .i64 0]) (by simp [results, Try.results34, go_sem, hc1, hz1_0]) rfl ⟨rfl, by repeat (first | exact Below.refl _ _ | exact hB1.out | refine Below.alloc ?_ (by first | omega | (simp; done) | (simp; omega)) _ | refine Below.setCell ?_ (by first | omega | (simp; done) | (simp; omega)) _ | refine Below.drew ?_)⟩

set_option maxHeartbeats 1000000 in
theorem rshift_no {x y : Int} (h : nearB x y = false) (w : World) :
    Calls Try.prog 34 #[.int .i64 x, .int .i64 y] w fun e w' => e = .returned (.tuple #[isoZero, .int .i64 5]) ∧ Below w.heap.size w w' := by
  rw [nearB_nr] at h
  cases h1 : nr x with
  | false =>
    have K10 := fun W => rnear_b h1 W
    have K1 := Lib.hid K10
    clear K10
    clear h h1
    go_enter Try.func34, Try.ntmps34
    go_wp2_with fail
    refine (K1.out _).mono ?_
    rintro e w0 ⟨rfl, rfl⟩
    go_wp2
    exact bodyPost_ret (v := .tuple #[isoZero, .int .i64 5]) (by simp [results, Try.results34, go_sem, isoZero]) rfl ⟨rfl, by repeat (first | exact Below.refl _ _ | refine Below.alloc ?_ (by first | omega | (simp; done) | (simp; omega)) _ | refine Below.setCell ?_ (by first | omega | (simp; done) | (simp; omega)) _ | refine Below.drew ?_)⟩
  | true =>
    have h2 : nr y = false := by rw [h1] at h; simpa using h
    have K10 := fun W => rnear_b h1 W
    have K1 := Lib.hid K10
    clear K10
    have K20 := fun W => rnear_b h2 W
    have K2 := Lib.hid K20
    clear K20
    clear h h1 h2
    go_enter Try.func34, Try.ntmps34
    go_wp2_with fail
    refine (K1.out _).mono ?_
    rintro e w0 ⟨rfl, rfl⟩
    go_wp2_with fail
    refine (K2.out _).mono ?_
    rintro e w0 ⟨rfl, rfl⟩
    go_wp2
    exact bodyPost_ret (v := .tuple #[isoZero, .int .i64 5]) (by simp [results, Try.results34, go_sem, isoZero]) rfl ⟨rfl, by repeat (first | exact Below.refl _ _ | refine Below.alloc ?_ (by first | omega | (simp; done) | (simp; omega)) _ | refine Below.setCell ?_ (by first | omega | (simp; done) | (simp; omega)) _ | refine Below.drew ?_)⟩

set_option maxHeartbeats 2000000 in
theorem isoShifts_walk (x y : Int) (w : World) : Calls Try.prog 7 #[.int .i64 x, .int .i64 y] w fun e w' => e = .returned (.bool true) ∧ Below w.heap.size w w' := by
  have key : ∃ (a b : Nat) (f : Bool) (c d : Nat) (er : Int), (∀ W, Calls Try.prog 28 #[.int .i64 x, .int .i64 y] W fun e w' => e = .returned (.tuple #[isoV a b f c d, .int .i64 er]) ∧ Below W.heap.size W w') ∧
      (∀ W, Calls Try.prog 34 #[.int .i64 x, .int .i64 y] W fun e w' => e = .returned (.tuple #[isoV a b f c d, .int .i64 er]) ∧ Below W.heap.size W w') ∧
      (∀ W, Calls Try.prog 35 #[isoV a b f c d] W fun e w' => e = .returned (.bool true) ∧ Below W.heap.size W w') ∧ (∀ W, (binOp .eql 38 (isoV a b f c d) (isoV a b f c d)).run Try.prog W = .ok (.bool true) W) := by
    by_cases h : Near x y
    · have h' : nr x = true ∧ nr y = true := by unfold Near at h; unfold nr; simp; omega
      have hx : x.natAbs < 9007199254740992 := by unfold Near at h; omega
      have hy : y.natAbs < 9007199254740992 := by unfold Near at h; omega
      refine ⟨_, _, _, _, _, 0, fun W => shift_yes h W, fun W => rshift_yes h'.1 h'.2 W, fun W => lclean_iso (by omega) _ hx hy W, fun W => ?_⟩
      rw [run_eq_iso, eqc_int (isInt_F _ (by decide)) (isInt_F _ (by decide)) (isInt_F _ (by decide)) (isInt_F _ (by decide)), eqc_int (isInt_F _ hx) (isInt_F _ hy) (isInt_F _ hx) (isInt_F _ hy)]
      simp
    · refine ⟨_, _, _, _, _, 5, fun W => shift_no h W, fun W => rshift_no (nearB_no h) W, fun W => lclean_zero W, fun W => ?_⟩
      rw [run_eq_iso, eqc_int isInt_zero isInt_zero isInt_zero isInt_zero]
      simp
  obtain ⟨a, b, f, c, d, er, h1, h2, h3, he⟩ := key
  have d1 := Lib.hid h1
  have d2 := Lib.hid h2
  have d3 := Lib.hid h3
  clear h1 h2 h3
  go_enter Try.func7, Try.ntmps7
  go_wp2_with fail
  refine (alive05 _).mono ?_
  rintro e w1 ⟨rfl, hb⟩
  obtain ⟨hc1, hf1⟩ := bcell hb
  have hs1 : w.heap.size ≤ w1.heap.size := by have := hb.size; (try simp at this); omega
  have hB1 := Lib.hid (below_then (B := w.heap.size) (w := w) (by repeat (first | exact Below.refl _ _ | refine Below.alloc ?_ (by first | omega | (simp; done) | (simp; omega)) _ | refine Below.setCell ?_ (by first | omega | (simp; done) | (simp; omega)) _ | refine Below.drew ?_)) hb (by first | omega | (simp; done) | (simp; omega)))
  clear hb
  go_wp2_with fail
  refine (d1.out _).mono ?_
  rintro e w2 ⟨rfl, hb⟩
  obtain ⟨hc2, hf2⟩ := bcell hb
  have hs2 : w.heap.size ≤ w2.heap.size := by have := hb.size; (try simp at this); omega
  have hB2 := Lib.hid (below_then (B := w.heap.size) (w := w) (by repeat (first | exact Below.refl _ _ | exact hB1.out | refine Below.alloc ?_ (by first | omega | (simp; done) | (simp; omega)) _ | refine Below.setCell ?_ (by first | omega | (simp; done) | (simp; omega)) _ | refine Below.drew ?_)) hb (by first | omega | (simp; done) | (simp; omega)))
  clear hb
  go_wp2_with fail
  refine (d2.out _).mono ?_
  rintro e w3 ⟨rfl, hb⟩
  obtain ⟨hc3, hf3⟩ := bcell hb
  have hs3 : w.heap.size ≤ w3.heap.size := by have := hb.size; (try simp at this); omega
  have hz3_0 : w2.heap.size < w3.heap.size := by have := hb.size; (try simp at this); omega
  have hB3 := Lib.hid (below_then (B := w.heap.size) (w := w) (by repeat (first | exact Below.refl _ _ | exact hB2.out | exact hB1.out | refine Below.alloc ?_ (by first | omega | (simp; done) | (simp; omega)) _ | refine Below.setCell ?_ (by first | omega | (simp; done) | (simp; omega)) _ | refine Below.drew ?_)) hb (by first | omega | (simp; done) | (simp; omega)))
  clear hb
  go_wp2_with fail
  refine (d3.out _).mono ?_
  rintro e w4 ⟨rfl, hb⟩
  obtain ⟨hc4, hf4⟩ := bcell hb
  have hs4 : w.heap.size ≤ w4.heap.size := by have := hb.size; (try simp at this); omega
  have hz4_0 : w2.heap.size < w4.heap.size := by have := hb.size; (try simp at this); omega
  have hz4_1 : w3.heap.size < w4.heap.size := by have := hb.size; (try simp at this); omega
  have hB4 := Lib.hid (below_then (B := w.heap.size) (w := w) (by repeat (first | exact Below.refl _ _ | exact hB3.out | exact hB2.out | exact hB1.out | refine Below.alloc ?_ (by first | omega | (simp; done) | (simp; omega)) _ | refine Below.setCell ?_ (by first | omega | (simp; done) | (simp; omega)) _ | refine Below.drew ?_)) hb (by first | omega | (simp; done) | (simp; omega)))
  clear hb
  go_wp2
  go_ret
  exact ⟨rfl, by repeat (first | exact Below.refl _ _ | exact hB4.out | exact hB3.out | exact hB2.out | exact hB1.out | refine Below.alloc ?_ (by first | omega | (simp; done) | (simp; omega)) _ | refine Below.setCell ?_ (by first | omega | (simp; done) | (simp; omega)) _ | refine Below.drew ?_)⟩
end Go.Proofs.Ytjomgjlicfoehaa
