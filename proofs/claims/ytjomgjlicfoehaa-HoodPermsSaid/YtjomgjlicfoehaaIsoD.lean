import Derived.Test.YtjomgjlicfoehaaIsoC
namespace Go.Proofs.Ytjomgjlicfoehaa
open Go.RowKit Flt
attribute [local go_sem] run_store_float run_store_complex unary_neg_float unary_neg_complex

theorem bcell {W w1 : World} (hb : Below W.heap.size W w1) : (∀ b o, b < W.heap.size → w1.cell? ⟨b, o, none⟩ = W.cell? ⟨b, o, none⟩) ∧ (∀ b o, b < W.heap.size → w1.frozen? ⟨b, o, none⟩ = W.frozen? ⟨b, o, none⟩) :=
  ⟨fun b o h => hb.cell (p := ⟨b, o, none⟩) h, fun b o h => hb.frozen (p := ⟨b, o, none⟩) h⟩

/-- An answer whose parts are told, all else below the call's beginning as it was. -/
def Gives (v : Value) (w : World) (e : Ending) (w' : World) : Prop := e = .returned v ∧ Below w.heap.size w w'

theorem order_symm {x y : Nat} (h : Ieee.double.order x y = some .eq) : Ieee.double.order y x = some .eq := by
  unfold Ieee.Format.order at *
  generalize Ieee.double.read x = a at *
  generalize Ieee.double.read y = b at *
  cases a with
  | nan s f => simp [Ieee.Datum.order] at h
  | infinity s =>
    cases b with
    | nan t f => simp [Ieee.Datum.order] at h
    | infinity t => cases s <;> cases t <;> simp_all [Ieee.Datum.order, compare, compareOfLessAndEq]
    | number t n j => cases s <;> simp [Ieee.Datum.order] at h
  | number s m i =>
    cases b with
    | nan t f => simp [Ieee.Datum.order] at h
    | infinity t => cases t <;> simp [Ieee.Datum.order] at h
    | number t n j =>
      unfold Ieee.Datum.order at *
      dsimp only at *
      rw [Int.min_comm j i]
      have := cmp_eq h
      rw [this, cmp_same]

theorem isInt_of_eqc {x : Nat} (hx : x < 18446744073709551616) {c : Nat} {s : Bool} {v : Nat} (hc : c = G s v) (hv : v < 9007199254740992) (h : (FloatKind.f64.format.order c x == some .eq) = true) : IsInt x (sg s v) := by
  subst hc
  exact isInt_of_eq hx hv (order_symm (by simpa [fmt64] using h))

theorem tb_of {a b k : Nat} (h : IsTurn a b k) :
    (((FloatKind.f64.format.order 4607182418800017408 a == some .eq) && (FloatKind.f64.format.order 0 b == some .eq)) = decide (k = 0)) ∧
    (((FloatKind.f64.format.order 0 a == some .eq) && (FloatKind.f64.format.order 4607182418800017408 b == some .eq)) = decide (k = 1)) ∧
    (((FloatKind.f64.format.order 13830554455654793216 a == some .eq) && (FloatKind.f64.format.order 0 b == some .eq)) = decide (k = 2)) ∧
    (((FloatKind.f64.format.order 0 a == some .eq) && (FloatKind.f64.format.order 13830554455654793216 b == some .eq)) = decide (k = 3)) := by
  obtain ⟨hk, ha, hb⟩ := h
  rw [eqc_1 ha, eqc_m ha, eqc_0 ha, eqc_1 hb, eqc_m hb, eqc_0 hb]
  match k, hk with
  | 0, _ => decide
  | 1, _ => decide
  | 2, _ => decide
  | 3, _ => decide

theorem quarter_yes {a b k : Nat} (h : IsTurn a b k) (w : World) :
    Calls Try.prog 63 #[.complex .f64 a b] w fun e w' => e = .returned (.tuple #[.int .i64 k, .bool true]) ∧ Below w.heap.size w w' := by
  obtain ⟨h0, h1, h2, h3⟩ := tb_of h
  refine (quarter_walk a b _ _ _ _ h0 h1 h2 h3 w).mono ?_
  rintro e w' ⟨rfl, hb⟩
  refine ⟨?_, hb⟩
  have hk := h.1
  match k, hk with
  | 0, _ => rfl
  | 1, _ => rfl
  | 2, _ => rfl
  | 3, _ => rfl

theorem quarter_no {a b : Nat} (ha : a < 18446744073709551616) (hb : b < 18446744073709551616) (h : ¬ ∃ k, IsTurn a b k) (w : World) :
    Calls Try.prog 63 #[.complex .f64 a b] w fun e w' => e = .returned (.tuple #[.int .i64 0, .bool false]) ∧ Below w.heap.size w w' := by
  have e1 : sg false 1 = 1 := rfl
  have e0 : sg false 0 = 0 := rfl
  have em : sg true 1 = -1 := rfl
  have k0 : ((FloatKind.f64.format.order 4607182418800017408 a == some .eq) && (FloatKind.f64.format.order 0 b == some .eq)) = false := by
    cases hc : ((FloatKind.f64.format.order 4607182418800017408 a == some .eq) && (FloatKind.f64.format.order 0 b == some .eq)) with
    | false => rfl
    | true =>
      rw [Bool.and_eq_true] at hc
      exact absurd ⟨0, by omega, isInt_of_eqc ha G_one (by omega) hc.1, isInt_of_eqc hb G_zero (by omega) hc.2⟩ h
  have k1 : ((FloatKind.f64.format.order 0 a == some .eq) && (FloatKind.f64.format.order 4607182418800017408 b == some .eq)) = false := by
    cases hc : ((FloatKind.f64.format.order 0 a == some .eq) && (FloatKind.f64.format.order 4607182418800017408 b == some .eq)) with
    | false => rfl
    | true =>
      rw [Bool.and_eq_true] at hc
      exact absurd ⟨1, by omega, isInt_of_eqc ha G_zero (by omega) hc.1, isInt_of_eqc hb G_one (by omega) hc.2⟩ h
  have k2 : ((FloatKind.f64.format.order 13830554455654793216 a == some .eq) && (FloatKind.f64.format.order 0 b == some .eq)) = false := by
    cases hc : ((FloatKind.f64.format.order 13830554455654793216 a == some .eq) && (FloatKind.f64.format.order 0 b == some .eq)) with
    | false => rfl
    | true =>
      rw [Bool.and_eq_true] at hc
      exact absurd ⟨2, by omega, isInt_of_eqc ha G_mone (by omega) hc.1, isInt_of_eqc hb G_zero (by omega) hc.2⟩ h
  have k3 : ((FloatKind.f64.format.order 0 a == some .eq) && (FloatKind.f64.format.order 13830554455654793216 b == some .eq)) = false := by
    cases hc : ((FloatKind.f64.format.order 0 a == some .eq) && (FloatKind.f64.format.order 13830554455654793216 b == some .eq)) with
    | false => rfl
    | true =>
      rw [Bool.and_eq_true] at hc
      exact absurd ⟨3, by omega, isInt_of_eqc ha G_zero (by omega) hc.1, isInt_of_eqc hb G_mone (by omega) hc.2⟩ h
  refine (quarter_walk a b _ _ _ _ k0 k1 k2 k3 w).mono ?_
  rintro e w' ⟨rfl, hb⟩
  exact ⟨rfl, hb⟩

/-- A map that may be, in its parts. -/
structure IsMap (a b c d k : Nat) (x y : Int) : Prop where
  turn : IsTurn a b k
  x : Fit c x
  y : Fit d y

abbrev isoV (a b : Nat) (f : Bool) (c d : Nat) : Value := .agg #[.complex .f64 a b, .bool f, .complex .f64 c d]
abbrev Wide (a b c d : Nat) : Prop := a < 18446744073709551616 ∧ b < 18446744073709551616 ∧ c < 18446744073709551616 ∧ d < 18446744073709551616

set_option maxHeartbeats 1000000 in
theorem valid_yes {a b c d k : Nat} {x y : Int} (f : Bool) (h : IsMap a b c d k x y) (w : World) :
    Calls Try.prog 30 #[isoV a b f c d] w fun e w' => e = .returned (.bool true) ∧ Below w.heap.size w w' := by
  have H1 := fun W => quarter_yes h.turn W
  have H2 := fun W => whole_yes h.x W
  have H3 := fun W => whole_yes h.y W
  have K1 := Lib.hid H1
  have K2 := Lib.hid H2
  have K3 := Lib.hid H3
  clear h H1 H2 H3
  go_enter Try.func30, Try.ntmps30
  go_wp2_with fail
  refine (K1.out _).mono ?_
  rintro e w1 ⟨rfl, hb⟩
  obtain ⟨hc, hf⟩ := bcell hb
  have hB := Lib.hid (Below.trans (below_new _) (hb.mono (by simp)))
  clear hb
  go_wp2_with fail
  refine (K2.out _).mono ?_
  rintro e w2 ⟨rfl, rfl⟩
  go_wp2_with fail
  refine (K3.out _).mono ?_
  rintro e w2 ⟨rfl, rfl⟩
  go_wp2
  go_ret
  exact ⟨rfl, hB.out⟩

set_option maxHeartbeats 1000000 in
theorem valid_no {a b c d : Nat} (f : Bool) (hw : Wide a b c d) (h : ¬ ∃ k x y, IsMap a b c d k x y) (w : World) :
    Calls Try.prog 30 #[isoV a b f c d] w fun e w' => e = .returned (.bool false) ∧ Below w.heap.size w w' := by
  by_cases ht : ∃ k, IsTurn a b k
  · obtain ⟨k, ht⟩ := ht
    by_cases hx : ∃ x, Fit c x
    · obtain ⟨x, hx⟩ := hx
      have hy : ¬ ∃ y, Fit d y := fun ⟨y, hy⟩ => h ⟨k, x, y, ht, hx, hy⟩
      have H1 := fun W => quarter_yes ht W
      have H2 := fun W => whole_yes hx W
      have H3 := fun W => whole_no hw.2.2.2 hy W
      have K1 := Lib.hid H1
      have K2 := Lib.hid H2
      have K3 := Lib.hid H3
      clear h H1 H2 H3 ht hx hy hw
      go_enter Try.func30, Try.ntmps30
      go_wp2_with fail
      refine (K1.out _).mono ?_
      rintro e w1 ⟨rfl, hb⟩
      obtain ⟨hc, hf⟩ := bcell hb
      have hB := Lib.hid (Below.trans (below_new _) (hb.mono (by simp)))
      clear hb
      go_wp2_with fail
      refine (K2.out _).mono ?_
      rintro e w2 ⟨rfl, rfl⟩
      go_wp2_with fail
      refine (K3.out _).mono ?_
      rintro e w2 ⟨rfl, rfl⟩
      go_wp2
      go_ret
      exact ⟨rfl, hB.out⟩
    · have H1 := fun W => quarter_yes ht W
      have H2 := fun W => whole_no hw.2.2.1 hx W
      have K1 := Lib.hid H1
      have K2 := Lib.hid H2
      clear h H1 H2 ht hx hw
      go_enter Try.func30, Try.ntmps30
      go_wp2_with fail
      refine (K1.out _).mono ?_
      rintro e w1 ⟨rfl, hb⟩
      obtain ⟨hc, hf⟩ := bcell hb
      have hB := Lib.hid (Below.trans (below_new _) (hb.mono (by simp)))
      clear hb
      go_wp2_with fail
      refine (K2.out _).mono ?_
      rintro e w2 ⟨rfl, rfl⟩
      go_wp2
      go_ret
      exact ⟨rfl, hB.out⟩
  · have H1 := fun W => quarter_no hw.1 hw.2.1 ht W
    have K1 := Lib.hid H1
    clear h H1 ht hw
    go_enter Try.func30, Try.ntmps30
    go_wp2_with fail
    refine (K1.out _).mono ?_
    rintro e w1 ⟨rfl, hb⟩
    obtain ⟨hc, hf⟩ := bcell hb
    have hB := Lib.hid (Below.trans (below_new _) (hb.mono (by simp)))
    clear hb
    go_wp2
    go_ret
    exact ⟨rfl, hB.out⟩
end Go.Proofs.Ytjomgjlicfoehaa
