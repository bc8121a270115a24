import Derived.Test.YtjomgjlicfoehaaIsoI
import Derived.Laws.StructEq
namespace Go.Proofs.Ytjomgjlicfoehaa
open Go.RowKit Flt
attribute [local go_sem] run_store_float run_store_complex unary_neg_float unary_neg_complex
set_option linter.unusedSimpArgs false
set_option linter.unusedVariables false

theorem eqA_of {P : Program} {d : Nat} {xs ys : Array Value} {r : Bool} {w : World} {t : TypeId} {fs : Array Field} (hu : P.underlying t = some (.struct fs)) (hp : P.stoodInHeld t = false) (h : (Op.eqFields d xs ys fs.toList).run P w = .ok r w) : (Op.equalIn (d + 1) t (.agg xs) (.agg ys)).run P w = .ok r w := by
  have hf : P.fieldsOf t = fs := by simp [Program.fieldsOf, hu]
  rw [run_equalIn_struct (P := P) w d t xs ys (by rw [hf]; exact hu) hp, hf]
  exact h

theorem eq_pt (x y u v : Int) (w : World) : (Op.equalIn 10000 30 (.agg #[.int .i64 x, .int .i64 y]) (.agg #[.int .i64 u, .int .i64 v])).run Try.prog w = .ok (x == u && y == v) w := by
  refine eqA_of (d := 9999) Try.underlying30 (by kernel_rfl) ?_
  simp only [Op.eqFields]
  cases h1 : (x == u) <;> cases h2 : (y == v) <;> simp [go_sem, h1, h2]

theorem run_eq_pt (x y u v : Int) (w : World) : (binOp .eql 30 (.agg #[.int .i64 x, .int .i64 y]) (.agg #[.int .i64 u, .int .i64 v])).run Try.prog w = .ok (.bool (x == u && y == v)) w := by
  simp only [binOp]
  simp [Op.equal, Op.maxDepth, eq_pt]

def eqc (a b c d : Nat) : Bool := (FloatKind.f64.format.order a c == some .eq) && (FloatKind.f64.format.order b d == some .eq)
theorem run_equalIn_complex (d : Nat) (a b x y : Nat) (w : World) : (Op.equalIn (d + 1) 36 (.complex .f64 a b) (.complex .f64 x y)).run Try.prog w = .ok (eqc a b x y) w := by
  simp [Op.equalIn, run_underlying Try.underlying36, Op.floatEq, eqc]

theorem eq_iso (a b c d a' b' c' d' : Nat) (f g : Bool) (w : World) : (Op.equalIn 10000 38 (isoV a b f c d) (isoV a' b' g c' d')).run Try.prog w = .ok (eqc a b a' b' && (f == g) && eqc c d c' d') w := by
  refine eqA_of (d := 9999) Try.underlying38 (by kernel_rfl) ?_
  simp only [Op.eqFields]
  cases h1 : eqc a b a' b' <;> cases h2 : (f == g) <;> cases h3 : eqc c d c' d' <;> simp [go_sem, run_equalIn_complex, h1, h2, h3]
theorem run_eq_iso (a b c d a' b' c' d' : Nat) (f g : Bool) (w : World) : (binOp .eql 38 (isoV a b f c d) (isoV a' b' g c' d')).run Try.prog w = .ok (.bool (eqc a b a' b' && (f == g) && eqc c d c' d')) w := by
  simp only [binOp]
  simp [Op.equal, Op.maxDepth, eq_iso]
theorem run_neq_iso (a b c d a' b' c' d' : Nat) (f g : Bool) (w : World) : (binOp .neq 38 (isoV a b f c d) (isoV a' b' g c' d')).run Try.prog w = .ok (.bool (!(eqc a b a' b' && (f == g) && eqc c d c' d'))) w := by
  simp only [binOp]
  simp [Op.equal, Op.maxDepth, eq_iso]
theorem eqc_int {a b c d : Nat} {x y u v : Int} (ha : IsInt a x) (hb : IsInt b y) (hc : IsInt c u) (hd : IsInt d v) : eqc a b c d = (decide (x = u) && decide (y = v)) := by
  unfold eqc; rw [eq_int ha hc, eq_int hb hd]

theorem isMap_F {k : Nat} (hk : k < 4) {x y : Int} (hx : x.natAbs ≤ 1099511627776) (hy : y.natAbs ≤ 1099511627776) : IsMap (F (tvx k)) (F (tvy k)) (F x) (F y) k x y := ⟨isTurn_F hk, fit_F' hx, fit_F' hy⟩

set_option maxHeartbeats 4000000 in
theorem alive05 (w : World) : Calls Try.prog 24 #[] w fun e w' => e = .returned (.bool true) ∧ Below w.heap.size w w' := by
  have c1 : ∀ W, Calls Try.prog 40 #[.int .i64 1] W fun e w' => e = .returned (.tuple #[isoF 1 false 0 0, .int .i64 0]) ∧ Below W.heap.size W w' := fun W => part_yes (k := 1) (by omega) W
  have c2 : ∀ W, Calls Try.prog 40 #[.int .i64 4] W fun e w' => e = .returned (.tuple #[isoF 0 true 0 0, .int .i64 0]) ∧ Below W.heap.size W w' := fun W => part_yes (k := 4) (by omega) W
  have c3 : ∀ W, Calls Try.prog 36 #[isoF 1 false 0 0, isoF 0 true 0 0] W fun e w' => e = .returned (.tuple #[isoF 3 true 0 0, .int .i64 0]) ∧ Below W.heap.size W w' := fun W => by
    have := then_flip false (isMap_F (k := 1) (x := 0) (y := 0) (by omega) (by omega) (by omega)) (isMap_F (k := 0) (x := 0) (y := 0) (by omega) (by omega) (by omega)) W
    have e : farV (nearB (dox 0 true 0 0 0) (doy 0 true 0 0 0)) (isoF (thenK 1 0 true) (false != true) (dox 0 true 0 0 0) (doy 0 true 0 0 0)) = .tuple #[isoF 3 true 0 0, .int .i64 0] := rfl
    rw [e] at this
    exact this
  have c4 : ∀ W, Calls Try.prog 29 #[isoF 3 true 0 0] W fun e w' => e = .returned (.tuple #[.int .i64 7, .int .i64 0]) ∧ Below W.heap.size W w' := fun W => which_yes true (isMap_F (k := 3) (x := 0) (y := 0) (by omega) (by omega) (by omega)) W
  have m : IsMap 0 4607182418800017408 4621819117588971520 0 1 10 0 := ⟨⟨by omega, isInt_zero, isInt_one⟩, ⟨⟨false, 10, by decide +kernel, rfl, by omega⟩, by omega⟩, ⟨isInt_zero, by omega⟩⟩
  have c5 : ∀ W, Calls Try.prog 26 #[isoV 0 4607182418800017408 false 4621819117588971520 0, .agg #[.int .i64 2, .int .i64 3]] W fun e w' => e = .returned (.tuple #[.agg #[.int .i64 7, .int .i64 2], .int .i64 0]) ∧ Below W.heap.size W w' := fun W =>
    at_yes false 2 3 m ⟨by omega, by omega, by omega, by omega⟩ ⟨by decide, by decide, by decide, by decide⟩ W
  have d1 := Lib.hid c1
  have d2 := Lib.hid c2
  have d3 := Lib.hid c3
  have d4 := Lib.hid c4
  have d5 := Lib.hid c5
  clear c1 c2 c3 c4 c5 m
  unfold isoF at *
  generalize F (tvx 1) = x1 at *
  generalize F (tvx 0) = x0 at *
  generalize F (tvx 3) = x3 at *
  generalize F (tvy 1) = y1 at *
  generalize F (tvy 0) = y0 at *
  generalize F (tvy 3) = y3 at *
  generalize F 0 = z at *
  have he := run_eq_pt
  go_enter Try.func24, Try.ntmps24
  go_wp2_with fail
  refine (d1.out _).mono ?_
  rintro e w1 ⟨rfl, hb⟩
  obtain ⟨hc1, hf1⟩ := bcell hb
  have hs1 : w.heap.size ≤ w1.heap.size := by have := hb.size; (try simp at this); omega
  have hB1 := Lib.hid (below_then (B := w.heap.size) (w := w) (by repeat (first | exact Below.refl _ _ | refine Below.alloc ?_ (by first | omega | (simp; done) | (simp; omega)) _ | refine Below.setCell ?_ (by first | omega | (simp; done) | (simp; omega)) _ | refine Below.drew ?_)) hb (by first | omega | (simp; done) | (simp; omega)))
  clear hb
  go_wp2_with fail
  refine (d2.out _).mono ?_
  rintro e w2 ⟨rfl, hb⟩
  obtain ⟨hc2, hf2⟩ := bcell hb
  have hs2 : w.heap.size ≤ w2.heap.size := by have := hb.size; (try simp at this); omega
  have hz2_0 : w1.heap.size < w2.heap.size := by have := hb.size; (try simp at this); omega
  have hB2 := Lib.hid (below_then (B := w.heap.size) (w := w) (by repeat (first | exact Below.refl _ _ | exact hB1.out | refine Below.alloc ?_ (by first | omega | (simp; done) | (simp; omega)) _ | refine Below.setCell ?_ (by first | omega | (simp; done) | (simp; omega)) _ | refine Below.drew ?_)) hb (by first | omega | (simp; done) | (simp; omega)))
  clear hb
  go_wp2_with fail
  refine (d3.out _).mono ?_
  rintro e w3 ⟨rfl, hb⟩
  obtain ⟨hc3, hf3⟩ := bcell hb
  have hs3 : w.heap.size ≤ w3.heap.size := by have := hb.size; (try simp at this); omega
  have hz3_0 : w1.heap.size < w3.heap.size := by have := hb.size; (try simp at this); omega
  have hz3_1 : w2.heap.size < w3.heap.size := by have := hb.size; (try simp at this); omega
  have hB3 := Lib.hid (below_then (B := w.heap.size) (w := w) (by repeat (first | exact Below.refl _ _ | exact hB2.out | exact hB1.out | refine Below.alloc ?_ (by first | omega | (simp; done) | (simp; omega)) _ | refine Below.setCell ?_ (by first | omega | (simp; done) | (simp; omega)) _ | refine Below.drew ?_)) hb (by first | omega | (simp; done) | (simp; omega)))
  clear hb
  go_wp2_with fail
  refine (d4.out _).mono ?_
  rintro e w4 ⟨rfl, hb⟩
  obtain ⟨hc4, hf4⟩ := bcell hb
  have hs4 : w.heap.size ≤ w4.heap.size := by have := hb.size; (try simp at this); omega
  have hz4_0 : w1.heap.size < w4.heap.size := by have := hb.size; (try simp at this); omega
  have hz4_1 : w2.heap.size < w4.heap.size := by have := hb.size; (try simp at this); omega
  have hz4_2 : w3.heap.size < w4.heap.size := by have := hb.size; (try simp at this); omega
  have hB4 := Lib.hid (below_then (B := w.heap.size) (w := w) (by repeat (first | exact Below.refl _ _ | exact hB3.out | exact hB2.out | exact hB1.out | refine Below.alloc ?_ (by first | omega | (simp; done) | (simp; omega)) _ | refine Below.setCell ?_ (by first | omega | (simp; done) | (simp; omega)) _ | refine Below.drew ?_)) hb (by first | omega | (simp; done) | (simp; omega)))
  clear hb
  go_wp2_with fail
  refine (d5.out _).mono ?_
  rintro e w5 ⟨rfl, hb⟩
  obtain ⟨hc5, hf5⟩ := bcell hb
  have hs5 : w.heap.size ≤ w5.heap.size := by have := hb.size; (try simp at this); omega
  have hz5_0 : w1.heap.size < w5.heap.size := by have := hb.size; (try simp at this); omega
  have hz5_1 : w2.heap.size < w5.heap.size := by have := hb.size; (try simp at this); omega
  have hz5_2 : w3.heap.size < w5.heap.size := by have := hb.size; (try simp at this); omega
  have hB5 := Lib.hid (below_then (B := w.heap.size) (w := w) (by repeat (first | exact Below.refl _ _ | exact hB4.out | exact hB3.out | exact hB2.out | exact hB1.out | refine Below.alloc ?_ (by first | omega | (simp; done) | (simp; omega)) _ | refine Below.setCell ?_ (by first | omega | (simp; done) | (simp; omega)) _ | refine Below.drew ?_)) hb (by first | omega | (simp; done) | (simp; omega)))
  clear hb
  go_wp2
  go_ret
  exact ⟨rfl, by repeat (first | exact Below.refl _ _ | exact hB5.out | exact hB4.out | exact hB3.out | exact hB2.out | exact hB1.out | refine Below.alloc ?_ (by first | omega | (simp; done) | (simp; omega)) _ | refine Below.setCell ?_ (by first | omega | (simp; done) | (simp; omega)) _ | refine Below.drew ?_)⟩
end Go.Proofs.Ytjomgjlicfoehaa
