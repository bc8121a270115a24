import Derived.Test.YtjomgjlicfoehaaIsoS
import Derived.Deep.RegionHeld3
import Derived.Deep.QuietTactic
import Derived.BigQuiet
import Derived.IntWalk
namespace Go.Proofs.Ytjomgjlicfoehaa
open Go.RowKit Flt
attribute [local go_sem] run_store_float run_store_complex unary_neg_float unary_neg_complex
set_option linter.unusedSimpArgs false
set_option linter.unusedVariables false

/-- What IsoRounds' calls answer: the powers are `pow 0 = zero, pow 1, ..`. -/
theorem rounds_calls (k : Nat) (hk : k < 4) (f : Bool) : ∃ (m z : M5) (pow : Nat → M5) (n : Nat), n ≤ 3 ∧ pow 0 = z ∧
    (∀ W, Calls Try.prog 40 #[.int .i64 (linN k f)] W fun e w' => e = .returned (.tuple #[m.V, .int .i64 0]) ∧ Below W.heap.size W w') ∧
    (∀ W, Calls Try.prog 40 #[.int .i64 0] W fun e w' => e = .returned (.tuple #[z.V, .int .i64 0]) ∧ Below W.heap.size W w') ∧
    (∀ W, Calls Try.prog 42 #[.int .i64 (linN k f)] W fun e w' => e = .returned (.tuple #[.int .i64 ((n : Int) + 1), .int .i64 0]) ∧ Below W.heap.size W w') ∧
    (∀ i W, Calls Try.prog 36 #[(pow i).V, m.V] W fun e w' => e = .returned (.tuple #[(pow (i + 1)).V, .int .i64 0]) ∧ Below W.heap.size W w') ∧
    (∀ i, i ≤ n → ∀ W, Calls Try.prog 38 #[(pow (i + 1)).V, z.V] W fun e w' => e = .returned (.tuple #[.bool (decide (i = n)), .int .i64 0]) ∧ Below W.heap.size W w') := by
  obtain ⟨m, hm⟩ := isoF_M5 k f 0 0
  obtain ⟨z, hz⟩ := isoF_M5 0 false 0 0
  have hpw := pw_lt hk f
  let pow : Nat → M5 := fun i => match i with
    | 0 => ⟨F (tvx 0), F (tvy 0), false, F 0, F 0⟩
    | i + 1 => ⟨F (tvx (pw k f i).1), F (tvy (pw k f i).1), (pw k f i).2, F 0, F 0⟩
  have p0 : (pow 0).V = isoF 0 false 0 0 := rfl
  have p1 : ∀ i, (pow (i + 1)).V = isoF (pw k f i).1 (pw k f i).2 0 0 := fun i => rfl
  refine ⟨⟨F (tvx k), F (tvy k), f, F 0, F 0⟩, pow 0, pow, tN k f, tN_le k f, rfl, ?_, ?_, ?_, ?_, ?_⟩
  · exact fun W => part_lin hk f W
  · intro W; rw [p0]; exact part_lin (k := 0) (by omega) false W
  · exact fun W => times_yes f hk W
  · intro i W
    cases i with
    | zero =>
      rw [p0, p1]
      have h := then_lin (k := 0) (l := k) (by omega) hk false f W
      have e : thenK 0 k f = k := by unfold thenK; split <;> omega
      rw [e, show (false != f) = f from by cases f <;> rfl] at h
      exact h
    | succ i =>
      rw [p1, p1]
      exact then_lin (hpw i) hk _ f W
  · intro i hi W
    rw [p0, p1]
    have h := same_yes (pw k f i).2 false (isMap_F (hpw i) (x := 0) (y := 0) (by omega) (by omega)) (isMap_F (k := 0) (x := 0) (y := 0) (by omega) (by omega) (by omega)) W
    have e : sameB (pw k f i).1 (pw k f i).2 0 0 0 false 0 0 = decide (i = tN k f) := by
      rw [← tN_test hk f hi]
      simp [sameB]
    rw [e] at h
    exact h

/-- At the loop's head: the power so far lies in its box, the part and nought in theirs. -/
def RoundRel (w : World) (M Z B : Nat) (N : Nat) (pow : Nat → M5) (m z : M5) (n : Value) (wr : World) : Prop :=
  ∃ i : Nat, i ≤ N + 1 ∧ n = .int .i64 ((i : Int) + 1) ∧
    (wr.cell? ⟨B, 0, none⟩ = some (.complex .f64 (pow i).a (pow i).b) ∧ wr.cell? ⟨B, 1, none⟩ = some (.bool (pow i).f) ∧ wr.cell? ⟨B, 2, none⟩ = some (.complex .f64 (pow i).c (pow i).d)) ∧
    (wr.cell? ⟨M, 0, none⟩ = some (.complex .f64 m.a m.b) ∧ wr.cell? ⟨M, 1, none⟩ = some (.bool m.f) ∧ wr.cell? ⟨M, 2, none⟩ = some (.complex .f64 m.c m.d)) ∧
    (wr.cell? ⟨Z, 0, none⟩ = some (.complex .f64 z.a z.b) ∧ wr.cell? ⟨Z, 1, none⟩ = some (.bool z.f) ∧ wr.cell? ⟨Z, 2, none⟩ = some (.complex .f64 z.c z.d)) ∧
    (∀ o, wr.frozen? ⟨B, o, none⟩ = false) ∧ Below w.heap.size w wr

set_option maxHeartbeats 8000000 in
theorem isoRounds_walk (k : Int) (w : World) : Calls Try.prog 11 #[.int .i64 k] w fun e w' => e = .returned (.bool true) ∧ Below w.heap.size w w' := by
  obtain ⟨m, z, pow, N, hN, hp0, c1, c2, c3, c4, c5⟩ := rounds_calls (kN k % 4) (by omega) (kF k)
  have hlin : linN (kN k % 4) (kF k) = (kN k : Int) := linN_j (kN k) (kN_lt k)
  rw [hlin] at c1 c3
  have hkw := kN_wrap k
  generalize kN k = K at *
  clear hlin
  unfold M5.V at *
  have d1 := Lib.hid c1
  have d2 := Lib.hid c2
  have d3 := Lib.hid c3
  have d4 := Lib.hid c4
  have d5 := Lib.hid c5
  have hkw' := Lib.hid hkw
  have hp0' := Lib.hid hp0
  clear c1 c2 c3 c4 c5 hkw hp0
  go_enter Try.func11, Try.ntmps11
  go_wp2_with fail
  refine (alive05 _).mono ?_
  rintro e w1 ⟨rfl, hb⟩
  obtain ⟨hc1, hf1⟩ := bcell hb
  have hs1 : w.heap.size ≤ w1.heap.size := by have := hb.size; (try simp at this); omega
  have hB1 := Lib.hid (below_then (B := w.heap.size) (w := w) (by repeat (first | exact Below.refl _ _ | refine Below.alloc ?_ (by first | omega | (simp; done) | (simp; omega)) _ | refine Below.setCell ?_ (by first | omega | (simp; done) | (simp; omega)) _ | refine Below.drew ?_)) hb (by first | omega | (simp; done) | (simp; omega)))
  clear hb
  go_wp2_with fail
  rw [hkw'.out]
  go_wp2_with fail
  refine (d1.out _).mono ?_
  rintro e w2 ⟨rfl, hb⟩
  obtain ⟨hc2, hf2⟩ := bcell hb
  have hs2 : w.heap.size ≤ w2.heap.size := by have := hb.size; (try simp at this); omega
  have hB2 := Lib.hid (below_then (B := w.heap.size) (w := w) (by repeat (first | exact Below.refl _ _ | exact hB1.out | refine Below.alloc ?_ (by first | omega | (simp; done) | (simp; omega)) _ | refine Below.setCell ?_ (by first | omega | (simp; done) | (simp; omega)) _ | refine Below.drew ?_)) hb (by first | omega | (simp; done) | (simp; omega)))
  clear hb
  go_wp2_with fail
  refine (d2.out _).mono ?_
  rintro e w3 ⟨rfl, hb⟩
  obtain ⟨hc3, hf3⟩ := bcell hb
  have hs3 : w.heap.size ≤ w3.heap.size := by have := hb.size; (try simp at this); omega
  have hz3_0 : w2.heap.size < w3.heap.size := by have := hb.size; (try simp at this); omega
  have hB3 := Lib.hid (below_then (B := w.heap.size) (w := w) (by repeat (first | exact Below.refl _ _ | exact hB2.out | exact hB1.out | refine Below.alloc ?_ (by first | omega | (simp; done) | (simp; omega)) _ | refine Below.setCell ?_ (by first | omega | (simp; done) | (simp; omega)) _ | refine Below.drew ?_)) hb (by first | omega | (simp; done) | (simp; omega)))
  clear hb
  go_wp2_with fail
  refine (d3.out _).mono ?_
  rintro e w4 ⟨rfl, hb⟩
  obtain ⟨hc4, hf4⟩ := bcell hb
  have hs4 : w.heap.size ≤ w4.heap.size := by have := hb.size; (try simp at this); omega
  have hz4_0 : w2.heap.size < w4.heap.size := by have := hb.size; (try simp at this); omega
  have hz4_1 : w3.heap.size < w4.heap.size := by have := hb.size; (try simp at this); omega
  have hB4 := Lib.hid (below_then (B := w.heap.size) (w := w) (by repeat (first | exact Below.refl _ _ | exact hB3.out | exact hB2.out | exact hB1.out | refine Below.alloc ?_ (by first | omega | (simp; done) | (simp; omega)) _ | refine Below.setCell ?_ (by first | omega | (simp; done) | (simp; omega)) _ | refine Below.drew ?_)) hb (by first | omega | (simp; done) | (simp; omega)))
  clear hb
  have hg1 : ¬ ((N : Int) + 1 < 1) := by omega
  have hg2 : ¬ (4 < (N : Int) + 1) := by omega
  go_wp2
  go_loopw [12] (fun n wr => RoundRel w w2.heap.size w3.heap.size w4.heap.size N pow m z n wr) (fun n _ => 8 - (intOf n).toNat)
  case atStart =>
    refine ⟨0, by omega, by go_num, ⟨?_, ?_, ?_⟩, ⟨?_, ?_, ?_⟩, ⟨?_, ?_, ?_⟩, ?_, ?_⟩
    · rw [hp0'.out]; go_simp
    · rw [hp0'.out]; go_simp
    · rw [hp0'.out]; go_simp
    · go_simp
    · go_simp
    · go_simp
    · go_simp
    · go_simp
    · go_simp
    · intro o; go_simp
    · exact Below.alloc hB4.out (by omega) _
  case round =>
    clear hc1 hc2 hc3 hc4 hf1 hf2 hf3 hf4
    obtain ⟨i, hi, rfl, ⟨p0, p1, p2⟩, ⟨m0, m1, m2⟩, ⟨z0, z1, z2⟩, fz, hBel⟩ := hrel
    have hB0 := Lib.hid hBel
    clear hBel
    by_cases hle : i ≤ N
    · have hle' : (i : Int) + 1 ≤ (N : Int) + 1 := by omega
      have K30 := fun W => d4.out i W
      have K40 := fun W => d5.out i hle W
      obtain ⟨P, hP⟩ : ∃ P, pow i = P := ⟨_, rfl⟩
      obtain ⟨Q, hQ⟩ : ∃ Q, pow (i + 1) = Q := ⟨_, rfl⟩
      obtain ⟨t, ht⟩ : ∃ t, decide (i = N) = t := ⟨_, rfl⟩
      have ht2 : (((i : Int) + 1) == ((N : Int) + 1)) = t := by rw [← ht, Bool.eq_iff_iff]; simp; omega
      rw [hP, hQ] at K30
      rw [hQ, ht] at K40
      rw [hP] at p0 p1 p2
      have K3 := Lib.hid K30
      have K4 := Lib.hid K40
      have hQ' := Lib.hid hQ
      clear K30 K40 hP hQ ht
      have hBl := World.block_lt_of_cell? wr _ p0
      have hMl := World.block_lt_of_cell? wr _ m0
      have hZl := World.block_lt_of_cell? wr _ z0
      go_wp2_with fail
      refine (K3.out _).mono ?_
      rintro e w5 ⟨rfl, hb⟩
      have fz5 := froz_kept hb p0 fz
      have p50 := cell_kept hb p0
      have p51 := cell_kept hb p1
      have p52 := cell_kept hb p2
      have m50 := cell_kept hb m0
      have m51 := cell_kept hb m1
      have m52 := cell_kept hb m2
      have z50 := cell_kept hb z0
      have z51 := cell_kept hb z1
      have z52 := cell_kept hb z2
      have hB5 := Lib.hid (below_then hB0.out hb (by have := hB0.out.size; omega))
      have hl5 : wr.heap.size ≤ w5.heap.size := hb.size
      clear hb p0 p1 p2 m0 m1 m2 z0 z1 z2 fz
      have hB5l : w4.heap.size < w5.heap.size := World.block_lt_of_cell? w5 _ p50
      have hM5l : w2.heap.size < w5.heap.size := World.block_lt_of_cell? w5 _ m50
      have hZ5l : w3.heap.size < w5.heap.size := World.block_lt_of_cell? w5 _ z50
      go_wp2_with fail
      refine (K4.out _).mono ?_
      rintro e w6 ⟨rfl, hb⟩
      obtain ⟨hc6, hf6⟩ := bcell hb
      have hz1 : w4.heap.size < w6.heap.size := by have := hb.size; (try simp at this); omega
      have hz2 : w2.heap.size < w6.heap.size := by have := hb.size; (try simp at this); omega
      have hz3 : w3.heap.size < w6.heap.size := by have := hb.size; (try simp at this); omega
      have hz4 : w5.heap.size < w6.heap.size := by have := hb.size; (try simp at this); omega
      have hn1 : w4.heap.size ≠ w5.heap.size := by omega
      have hn2 : w2.heap.size ≠ w5.heap.size := by omega
      have hn3 : w3.heap.size ≠ w5.heap.size := by omega
      have hn4 : w4.heap.size ≠ w2.heap.size := by omega
      have hn5 : w4.heap.size ≠ w3.heap.size := by omega
      have hn6 : w2.heap.size ≠ w4.heap.size := by omega
      have hn7 : w3.heap.size ≠ w4.heap.size := by omega
      have hB6 := Lib.hid (below_then (B := w.heap.size) (w := w) (by repeat (first | exact hB5.out | refine Below.alloc ?_ (by first | omega | (simp; done) | (simp; omega)) _ | refine Below.setCell ?_ (by first | omega | (simp; done) | (simp; omega)) _ | refine Below.drew ?_)) hb (by first | omega | (simp; done) | (simp; omega)))
      clear hb
      go_wp2
      refine ⟨⟨i + 1, by omega, by go_num, ⟨?_, ?_, ?_⟩, ⟨?_, ?_, ?_⟩, ⟨?_, ?_, ?_⟩, ?_, hB6.out⟩, by simp [intOf]; omega⟩
      · rw [hQ'.out]; go_simp
      · rw [hQ'.out]; go_simp
      · rw [hQ'.out]; go_simp
      · go_simp
      · go_simp
      · go_simp
      · go_simp
      · go_simp
      · go_simp
      · intro o; go_simp
    · have hle' : ¬ ((i : Int) + 1 ≤ (N : Int) + 1) := by omega
      go_wp2
      go_ret
      exact ⟨rfl, hB0.out⟩
end Go.Proofs.Ytjomgjlicfoehaa
