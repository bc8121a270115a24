import Derived.Test.YtjomgjlicfoehaaProg
import Derived.Test.YtjomgjlicfoehaaFlt
import Derived.WalkKit
import Derived.WalkSpells
import Derived.WalkLawsBesides
import Derived.Lib.Hide
import Derived.KernelRfl
import Derived.BigQuiet
namespace Go.Proofs.Ytjomgjlicfoehaa
open Go.RowKit Flt

theorem run_store_float (P : Program) (w : World) (a : Addr) (m : Mode) (k : FloatKind) (b : Nat) : (store a (.float k b) m).run P w = stored P w a (.float k b) m := run_store P w a _ m rfl
theorem run_store_complex (P : Program) (w : World) (a : Addr) (m : Mode) (k : FloatKind) (x y : Nat) : (store a (.complex k x y) m).run P w = stored P w a (.complex k x y) m := run_store P w a _ m rfl

theorem unary_neg_float (k : FloatKind) (b : Nat) : Op.unary .neg (.float k b) = pure (.float k (Op.negFloat k b)) := rfl
theorem unary_neg_complex (k : FloatKind) (a b : Nat) : Op.unary .neg (.complex k a b) = pure (.complex k (Op.negFloat k a) (Op.negFloat k b)) := rfl

theorem fmt64 : FloatKind.f64.format = Ieee.double := rfl
theorem G_lo : (14010698440749613056 : Nat) = G true 1099511627776 := by decide +kernel
theorem G_hi : (4787326403894837248 : Nat) = G false 1099511627776 := by decide +kernel
theorem G_one : (4607182418800017408 : Nat) = G false 1 := by decide +kernel
theorem G_mone : (13830554455654793216 : Nat) = G true 1 := by decide +kernel
theorem G_zero : (0 : Nat) = G false 0 := by decide +kernel

/-- A whole number that may be, as a float. -/
def Fit (x : Nat) (z : Int) : Prop := IsInt x z ∧ z.natAbs ≤ 1099511627776

theorem cmp_gt {a b : Int} (h : b < a) : compare a b = .gt := by
  simp only [compare, compareOfLessAndEq]
  rw [if_neg (by omega), if_neg (by omega)]
theorem cmp_lt {a b : Int} (h : a < b) : compare a b = .lt := by
  simp only [compare, compareOfLessAndEq]
  rw [if_pos h]
theorem cmp_same (a : Int) : compare a a = .eq := by
  simp only [compare, compareOfLessAndEq]
  rw [if_neg (by omega)]; simp

theorem fit_ge {x : Nat} {z : Int} (h : Fit x z) : (FloatKind.f64.format.order x 14010698440749613056 == some .gt || FloatKind.f64.format.order x 14010698440749613056 == some .eq) = true := by
  obtain ⟨⟨s, v, rfl, rfl, hv⟩, hz⟩ := h
  rw [fmt64, G_lo, order_G s true v _ hv (by omega)]
  rw [sg_natAbs] at hz
  have h1 : sg true 1099511627776 ≤ sg s v := by unfold sg; cases s <;> simp <;> omega
  rcases Int.lt_or_eq_of_le h1 with h | h
  · rw [cmp_gt h]; rfl
  · rw [h, cmp_same]; rfl
theorem fit_le {x : Nat} {z : Int} (h : Fit x z) : (FloatKind.f64.format.order x 4787326403894837248 == some .lt || FloatKind.f64.format.order x 4787326403894837248 == some .eq) = true := by
  obtain ⟨⟨s, v, rfl, rfl, hv⟩, hz⟩ := h
  rw [fmt64, G_hi, order_G s false v _ hv (by omega)]
  rw [sg_natAbs] at hz
  have h1 : sg s v ≤ sg false 1099511627776 := by unfold sg; cases s <;> simp <;> omega
  rcases Int.lt_or_eq_of_le h1 with h | h
  · rw [cmp_lt h]; rfl
  · rw [h, cmp_same]; rfl
theorem fit_conv {x : Nat} {z : Int} (h : Fit x z) : floatToIntVal .f64 x .i64 = some z := by
  have h1 := fit_ge h
  have h2 := fit_le h
  obtain ⟨⟨s, v, rfl, rfl, hv⟩, hz⟩ := h
  unfold floatToIntVal
  have hd : (FloatKind.f64.decode (G s v)).toInt .zero = some (sg s v) := toInt_G s v hv
  rw [hd]
  have : (IntKind.i64.min ≤ sg s v ∧ sg s v ≤ IntKind.i64.max) := by
    have a1 : IntKind.i64.min = -9223372036854775808 := by decide
    have a2 : IntKind.i64.max = 9223372036854775807 := by decide
    rw [a1, a2]
    omega
  simp only [this, and_self, if_true]
theorem order_int {x y : Nat} {a b : Int} (hx : IsInt x a) (hy : IsInt y b) : FloatKind.f64.format.order x y = some (compare a b) := by
  obtain ⟨s, v, rfl, rfl, hv⟩ := hx
  obtain ⟨t, u, rfl, rfl, hu⟩ := hy
  exact order_G s t v u hv hu
theorem eq_int {x y : Nat} {a b : Int} (hx : IsInt x a) (hy : IsInt y b) : (FloatKind.f64.format.order x y == some .eq) = decide (a = b) := by
  rw [order_int hx hy]
  rcases Int.lt_trichotomy a b with h | h | h
  · rw [cmp_lt h]; simp; omega
  · subst h; rw [cmp_same]; simp
  · rw [cmp_gt h]; simp; omega
theorem fit_F {x : Nat} {z : Int} (h : Fit x z) : floatOfInt .f64 z = F z := floatOfInt_F z (by have := h.2; omega)
theorem isInt_one : IsInt 4607182418800017408 1 := ⟨false, 1, G_one, rfl, by omega⟩
theorem isInt_mone : IsInt 13830554455654793216 (-1) := ⟨true, 1, G_mone, rfl, by omega⟩
theorem isInt_zero : IsInt 0 0 := ⟨false, 0, G_zero, rfl, by omega⟩

/-- Of any word: it is a whole number that may be, or the test finds that it is none. -/
theorem fit_or (x : Nat) (hx : x < 18446744073709551616) : (∃ z, Fit x z) ∨
    (FloatKind.f64.format.order x 14010698440749613056 == some .gt || FloatKind.f64.format.order x 14010698440749613056 == some .eq) = false ∨
    (FloatKind.f64.format.order x 14010698440749613056 == some .gt || FloatKind.f64.format.order x 14010698440749613056 == some .eq) = true ∧
      (FloatKind.f64.format.order x 4787326403894837248 == some .lt || FloatKind.f64.format.order x 4787326403894837248 == some .eq) = false ∨
    (FloatKind.f64.format.order x 14010698440749613056 == some .gt || FloatKind.f64.format.order x 14010698440749613056 == some .eq) = true ∧
      (FloatKind.f64.format.order x 4787326403894837248 == some .lt || FloatKind.f64.format.order x 4787326403894837248 == some .eq) = true ∧
      ∃ t, floatToIntVal .f64 x .i64 = some t ∧ floatOfInt .f64 t = F t ∧ (FloatKind.f64.format.order x (F t) == some .eq) = false := by
  cases h1 : (FloatKind.f64.format.order x 14010698440749613056 == some .gt || FloatKind.f64.format.order x 14010698440749613056 == some .eq) with
  | false => exact .inr (.inl rfl)
  | true =>
    cases h2 : (FloatKind.f64.format.order x 4787326403894837248 == some .lt || FloatKind.f64.format.order x 4787326403894837248 == some .eq) with
    | false => exact .inr (.inr (.inl ⟨rfl, rfl⟩))
    | true =>
      rw [fmt64, G_lo] at h1
      rw [fmt64, G_hi] at h2
      obtain ⟨t, ht, hb⟩ := cut_between (x := x) (lim := 1099511627776) (by omega) (by simpa using h1) (by simpa using h2)
      cases h3 : (FloatKind.f64.format.order x (F t) == some .eq) with
      | false => exact .inr (.inr (.inr ⟨rfl, rfl, t, ht, floatOfInt_F t (by omega), h3⟩))
      | true =>
        have h4 := isInt_of_eq hx (t := decide (t < 0)) (u := t.natAbs) (by omega) (by simpa [F, fmt64] using h3)
        rw [sg_self] at h4
        exact .inl ⟨t, h4, hb⟩
/-- A word that the tests say no to is no whole number that may be. -/
theorem fit_unique {x : Nat} {a b : Int} (h : Fit x a) (k : Fit x b) : a = b := by
  have h1 := fit_conv h
  rw [fit_conv k] at h1
  exact (Option.some.inj h1).symm

set_option maxRecDepth 10000 in
set_option maxHeartbeats 400000 in
theorem whole_yes {x : Nat} {z : Int} (h : Fit x z) (w : World) :
    Calls Try.prog 64 #[.float .f64 x] w fun e w' => e = .returned (.bool true) ∧ w = w' := by
  have h1 := fit_ge h
  have h2 := fit_le h
  have hc := fun W => run_convert_float_int (P := Try.prog) W 32 3 .f64 .i64 x z (by rw [Try.underlying32]; rfl) Try.underlying3 (fit_conv h)
  have hF := fit_F h
  have h3 : (FloatKind.f64.format.order x (F z) == some .eq) = true := by rw [eq_int h.1 (isInt_F z (by have := h.2; omega))]; simp
  clear h
  go_enter Try.func64, Try.ntmps64
  go_wp2
  go_ret
  exact ⟨rfl, rfl⟩

set_option maxRecDepth 10000 in
set_option maxHeartbeats 400000 in
theorem whole_no {x : Nat} (hx : x < 18446744073709551616) (h : ¬ ∃ z, Fit x z) (w : World) :
    Calls Try.prog 64 #[.float .f64 x] w fun e w' => e = .returned (.bool false) ∧ w = w' := by
  rcases fit_or x hx with h' | h' | ⟨h1, h2⟩ | ⟨h1, h2, t, hc, hF, h3⟩
  · exact absurd h' h
  · clear h
    go_enter Try.func64, Try.ntmps64
    go_wp2
    go_ret
    exact ⟨rfl, rfl⟩
  · clear h
    go_enter Try.func64, Try.ntmps64
    go_wp2
    go_ret
    exact ⟨rfl, rfl⟩
  · clear h
    have hc' := fun W => run_convert_float_int (P := Try.prog) W 32 3 .f64 .i64 x t (by rw [Try.underlying32]; rfl) Try.underlying3 hc
    clear hc
    go_enter Try.func64, Try.ntmps64
    go_wp2
    go_ret
    exact ⟨rfl, rfl⟩
end Go.Proofs.Ytjomgjlicfoehaa
