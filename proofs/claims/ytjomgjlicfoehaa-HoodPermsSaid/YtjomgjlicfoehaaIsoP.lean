import Derived.Test.YtjomgjlicfoehaaIsoO
import Derived.Deep.RegionHeld3
namespace Go.Proofs.Ytjomgjlicfoehaa
open Go.RowKit Flt
attribute [local go_sem] run_store_float run_store_complex unary_neg_float unary_neg_complex
set_option linter.unusedSimpArgs false
set_option linter.unusedVariables false

/-- What the region of 'Back' keeps: the map, the map back, and that below the call's beginning nothing has turned. -/
theorem back_keep {W w' : World} {n m : Nat} {a b c a' b' c' : Value} (h : W.cell? ⟨n, 0, none⟩ = some a ∧ W.cell? ⟨n, 1, none⟩ = some b ∧ W.cell? ⟨n, 2, none⟩ = some c ∧ W.cell? ⟨m, 0, none⟩ = some a' ∧ W.cell? ⟨m, 1, none⟩ = some b' ∧ W.cell? ⟨m, 2, none⟩ = some c')
    (hb : Below W.heap.size W w') : w'.cell? ⟨n, 0, none⟩ = some a ∧ w'.cell? ⟨n, 1, none⟩ = some b ∧ w'.cell? ⟨n, 2, none⟩ = some c ∧ w'.cell? ⟨m, 0, none⟩ = some a' ∧ w'.cell? ⟨m, 1, none⟩ = some b' ∧ w'.cell? ⟨m, 2, none⟩ = some c' :=
  ⟨cell_kept hb h.1, cell_kept hb h.2.1, cell_kept hb h.2.2.1, cell_kept hb h.2.2.2.1, cell_kept hb h.2.2.2.2.1, cell_kept hb h.2.2.2.2.2⟩

set_option maxHeartbeats 4000000 in
theorem back_false {a b c d k : Nat} {x y : Int} (h : IsMap a b c d k x y) (w : World) :
    Calls Try.prog 45 #[isoV a b false c d] w fun e w' => e = .returned (.tuple #[isoF (backK k false) false (-(dox (backK k false) false 0 x y)) (-(doy (backK k false) false 0 x y)), .int .i64 0]) ∧ Below w.heap.size w w' := by
  have K10 := fun W => valid_yes false h W
  have K1 := Lib.hid K10
  clear K10
  have t1 : IsInt a (tvx (backK k false)) := by rw [← (back_tv h.turn.1).1]; exact h.turn.2.1
  have t2 : IsInt (Op.negFloat .f64 b) (tvy (backK k false)) := by rw [← (back_tv h.turn.1).2]; exact neg_int h.turn.2.2
  have K30 := fun W => does_int false (⟨backK_lt h.turn.1 false, t1, t2⟩ : IsTurn _ _ (backK k false)) isInt_zero isInt_zero h.x.1 h.y.1 (by omega) (by omega) (by have := h.x.2; omega) (by have := h.y.2; omega) W
  have K3 := Lib.hid K30
  clear K30
  clear h
  unfold isoF
  generalize dox (backK k false) false 0 x y = X at *
  generalize doy (backK k false) false 0 x y = Y at *
  generalize backK k false = T at *
  go_enter Try.func45, Try.ntmps45
  go_wp2_with fail
  refine (K1.out _).mono ?_
  rintro e w1 ⟨rfl, hb⟩
  obtain ⟨hc1, hf1⟩ := bcell hb
  have hs1 : w.heap.size ≤ w1.heap.size := by have := hb.size; (try simp at this); omega
  have hz1_0 : w.heap.size < w1.heap.size := by have := hb.size; (try simp at this); omega
  have hz1_1 : w.heap.size + 1 < w1.heap.size := by have := hb.size; (try simp at this); omega
  have hB1 := Lib.hid (below_then (B := w.heap.size) (w := w) (by repeat (first | exact Below.refl _ _ | refine Below.alloc ?_ (by first | omega | (simp; done) | (simp; omega)) _ | refine Below.setCell ?_ (by first | omega | (simp; done) | (simp; omega)) _ | refine Below.drew ?_)) hb (by first | omega | (simp; done) | (simp; omega)))
  clear hb
  go_wp2_with fail
  refine (conj_any _ _ _).mono ?_
  rintro e w0 ⟨rfl, rfl⟩
  go_wp2_with fail
  have r1 : w1.cell? ⟨w.heap.size, 0, none⟩ = some (.complex .f64 a b) := by go_simp
  have r2 : w1.cell? ⟨w.heap.size, 1, none⟩ = some (.bool false) := by go_simp
  have r3 : w1.cell? ⟨w.heap.size, 2, none⟩ = some (.complex .f64 c d) := by go_simp
  have s1 : w1.cell? ⟨w.heap.size + 1, 0, none⟩ = some (.complex .f64 0 0) := by go_simp
  have s2 : w1.cell? ⟨w.heap.size + 1, 1, none⟩ = some (.bool false) := by go_simp
  have s3 : w1.cell? ⟨w.heap.size + 1, 2, none⟩ = some (.complex .f64 0 0) := by go_simp
  have s4 : ∀ o, w1.frozen? ⟨w.heap.size + 1, o, none⟩ = false := fun o => by go_simp
  clear hc1 hf1
  have n1 : w.heap.size ≠ w1.heap.size := by omega
  have n2 : w.heap.size + 1 ≠ w1.heap.size := by omega
  have n3 : ¬ w.heap.size + 1 = w.heap.size := by omega
  go_region_held3 (fun w' => w'.cell? ⟨w.heap.size, 0, none⟩ = some (.complex .f64 a b) ∧ w'.cell? ⟨w.heap.size, 1, none⟩ = some (.bool false) ∧ w'.cell? ⟨w.heap.size, 2, none⟩ = some (.complex .f64 c d) ∧
      w'.cell? ⟨w1.heap.size, 0, none⟩ = some (.complex .f64 a (Op.negFloat .f64 b)) ∧ w'.cell? ⟨w1.heap.size, 1, none⟩ = some (.bool false) ∧ w'.cell? ⟨w1.heap.size, 2, none⟩ = some (.complex .f64 0 0))
    (first | ((try go_split_ands); exact back_keep ⟨by assumption, by assumption, by assumption, by assumption, by assumption, by assumption⟩ hb) | go_keep)
    (first | (go_at_call 58; refine (K3.out _).mono ?_; rintro e w3 ⟨r, i, rfl, hr, hi, hb⟩; have q3 : Below w1.heap.size w1 w3 := below_then (Below.drew (Below.alloc (Below.refl _ _) (Nat.le_refl _) _)) hb (by simp)) | (go_at_call 62; have T1 := made_int false t1 t2 (neg_int hr) (neg_int hi); refine (T1 _).mono ?_; clear T1; rintro e w4 ⟨rfl, hb⟩; have q4 : Below w1.heap.size w1 w4 := below_then q3 hb q3.size; have v1 := cell_kept q4 s1; have v2 := cell_kept q4 s2; have v3 := cell_kept q4 s3; have v4 := froz_kept q4 s1 s4))
  have hB4 := Lib.hid (below_then hB1.out q4 (by omega))
  clear hb q3 q4 hr hi
  go_wp2
  exact bodyPost_ret (v := .tuple #[isoV (F (tvx T)) (F (tvy T)) false (F (-X)) (F (-Y)), .int .i64 0]) (by simp [results, Try.results45, go_sem, v1, v2, v3]) rfl ⟨rfl, ((hB4.out.setCell (by simp) _).setCell (by simp) _).setCell (by simp) _⟩

set_option maxHeartbeats 4000000 in
theorem back_true {a b c d k : Nat} {x y : Int} (h : IsMap a b c d k x y) (w : World) :
    Calls Try.prog 45 #[isoV a b true c d] w fun e w' => e = .returned (.tuple #[isoF (backK k true) true (-(dox (backK k true) true 0 x y)) (-(doy (backK k true) true 0 x y)), .int .i64 0]) ∧ Below w.heap.size w w' := by
  have K10 := fun W => valid_yes true h W
  have K1 := Lib.hid K10
  clear K10
  have t1 : IsInt a (tvx (backK k true)) := h.turn.2.1
  have t2 : IsInt b (tvy (backK k true)) := h.turn.2.2
  have K30 := fun W => does_int true (⟨backK_lt h.turn.1 true, t1, t2⟩ : IsTurn _ _ (backK k true)) isInt_zero isInt_zero h.x.1 h.y.1 (by omega) (by omega) (by have := h.x.2; omega) (by have := h.y.2; omega) W
  have K3 := Lib.hid K30
  clear K30
  clear h
  unfold isoF
  generalize dox (backK k true) true 0 x y = X at *
  generalize doy (backK k true) true 0 x y = Y at *
  generalize backK k true = T at *
  go_enter Try.func45, Try.ntmps45
  go_wp2_with fail
  refine (K1.out _).mono ?_
  rintro e w1 ⟨rfl, hb⟩
  obtain ⟨hc1, hf1⟩ := bcell hb
  have hs1 : w.heap.size ≤ w1.heap.size := by have := hb.size; (try simp at this); omega
  have hz1_0 : w.heap.size < w1.heap.size := by have := hb.size; (try simp at this); omega
  have hz1_1 : w.heap.size + 1 < w1.heap.size := by have := hb.size; (try simp at this); omega
  have hB1 := Lib.hid (below_then (B := w.heap.size) (w := w) (by repeat (first | exact Below.refl _ _ | refine Below.alloc ?_ (by first | omega | (simp; done) | (simp; omega)) _ | refine Below.setCell ?_ (by first | omega | (simp; done) | (simp; omega)) _ | refine Below.drew ?_)) hb (by first | omega | (simp; done) | (simp; omega)))
  clear hb
  go_wp2_with fail
  refine (conj_any _ _ _).mono ?_
  rintro e w0 ⟨rfl, rfl⟩
  go_wp2_with fail
  have r1 : w1.cell? ⟨w.heap.size, 0, none⟩ = some (.complex .f64 a b) := by go_simp
  have r2 : w1.cell? ⟨w.heap.size, 1, none⟩ = some (.bool true) := by go_simp
  have r3 : w1.cell? ⟨w.heap.size, 2, none⟩ = some (.complex .f64 c d) := by go_simp
  have s1 : w1.cell? ⟨w.heap.size + 1, 0, none⟩ = some (.complex .f64 0 0) := by go_simp
  have s2 : w1.cell? ⟨w.heap.size + 1, 1, none⟩ = some (.bool false) := by go_simp
  have s3 : w1.cell? ⟨w.heap.size + 1, 2, none⟩ = some (.complex .f64 0 0) := by go_simp
  have s4 : ∀ o, w1.frozen? ⟨w.heap.size + 1, o, none⟩ = false := fun o => by go_simp
  clear hc1 hf1
  have n1 : w.heap.size ≠ w1.heap.size := by omega
  have n2 : w.heap.size + 1 ≠ w1.heap.size := by omega
  have n3 : ¬ w.heap.size + 1 = w.heap.size := by omega
  go_region_held3 (fun w' => w'.cell? ⟨w.heap.size, 0, none⟩ = some (.complex .f64 a b) ∧ w'.cell? ⟨w.heap.size, 1, none⟩ = some (.bool true) ∧ w'.cell? ⟨w.heap.size, 2, none⟩ = some (.complex .f64 c d) ∧
      w'.cell? ⟨w1.heap.size, 0, none⟩ = some (.complex .f64 a b) ∧ w'.cell? ⟨w1.heap.size, 1, none⟩ = some (.bool true) ∧ w'.cell? ⟨w1.heap.size, 2, none⟩ = some (.complex .f64 0 0))
    (first | ((try go_split_ands); exact back_keep ⟨by assumption, by assumption, by assumption, by assumption, by assumption, by assumption⟩ hb) | go_keep)
    (first | (go_at_call 58; refine (K3.out _).mono ?_; rintro e w3 ⟨r, i, rfl, hr, hi, hb⟩; have q3 : Below w1.heap.size w1 w3 := below_then (Below.drew (Below.alloc (Below.refl _ _) (Nat.le_refl _) _)) hb (by simp)) | (go_at_call 62; have T1 := made_int true t1 t2 (neg_int hr) (neg_int hi); refine (T1 _).mono ?_; clear T1; rintro e w4 ⟨rfl, hb⟩; have q4 : Below w1.heap.size w1 w4 := below_then q3 hb q3.size; have v1 := cell_kept q4 s1; have v2 := cell_kept q4 s2; have v3 := cell_kept q4 s3; have v4 := froz_kept q4 s1 s4))
  have hB4 := Lib.hid (below_then hB1.out q4 (by omega))
  clear hb q3 q4 hr hi
  go_wp2
  exact bodyPost_ret (v := .tuple #[isoV (F (tvx T)) (F (tvy T)) true (F (-X)) (F (-Y)), .int .i64 0]) (by simp [results, Try.results45, go_sem, v1, v2, v3]) rfl ⟨rfl, ((hB4.out.setCell (by simp) _).setCell (by simp) _).setCell (by simp) _⟩


theorem back_yes {a b c d k : Nat} {x y : Int} (f : Bool) (h : IsMap a b c d k x y) (w : World) :
    Calls Try.prog 45 #[isoV a b f c d] w fun e w' => e = .returned (.tuple #[isoF (backK k f) f (-(dox (backK k f) f 0 x y)) (-(doy (backK k f) f 0 x y)), .int .i64 0]) ∧ Below w.heap.size w w' := by
  cases f
  · exact back_false h w
  · exact back_true h w
end Go.Proofs.Ytjomgjlicfoehaa
