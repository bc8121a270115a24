import Derived.Test.YtjomgjlicfoehaaIsoK
namespace Go.Proofs.Ytjomgjlicfoehaa
open Go.RowKit Flt
attribute [local go_sem] run_store_float run_store_complex unary_neg_float unary_neg_complex
set_option linter.unusedSimpArgs false
set_option linter.unusedVariables false

theorem linear_j {j : Nat} (hj : j < 8) {x y : Int} (hx : x.natAbs ≤ 4398046511104) (hy : y.natAbs ≤ 4398046511104) (w : World) :
    Calls Try.prog 61 #[.int .i64 j, .int .i64 x, .int .i64 y] w fun e w' => e = .returned (.tuple #[.int .i64 (dox (j % 4) (decide (4 ≤ j)) 0 x y), .int .i64 (doy (j % 4) (decide (4 ≤ j)) 0 x y)]) ∧ w = w' := by
  have e : linN (j % 4) (decide (4 ≤ j)) = (j : Int) := by
    unfold linN
    by_cases h : 4 ≤ j
    · simp [h]; omega
    · simp [h]; omega
  have := linear (decide (4 ≤ j)) (k := j % 4) (by omega) hx hy w
  rwa [e] at this

set_option maxHeartbeats 2000000 in
theorem both_walk (a b p1 p2 q1 q2 x y u v : Int) (s t p q : Nat → Int) (tgt : Nat) (htgt : tgt < 8)
    (A1 : Hid (∀ W, Calls Try.prog 61 #[.int .i64 a, .int .i64 1, .int .i64 0] W fun e w' => e = .returned (.tuple #[.int .i64 p1, .int .i64 p2]) ∧ W = w'))
    (B1 : Hid (∀ W, Calls Try.prog 61 #[.int .i64 b, .int .i64 p1, .int .i64 p2] W fun e w' => e = .returned (.tuple #[.int .i64 x, .int .i64 y]) ∧ W = w'))
    (A2 : Hid (∀ W, Calls Try.prog 61 #[.int .i64 a, .int .i64 0, .int .i64 1] W fun e w' => e = .returned (.tuple #[.int .i64 q1, .int .i64 q2]) ∧ W = w'))
    (B2 : Hid (∀ W, Calls Try.prog 61 #[.int .i64 b, .int .i64 q1, .int .i64 q2] W fun e w' => e = .returned (.tuple #[.int .i64 u, .int .i64 v]) ∧ W = w'))
    (C1 : Hid (∀ j : Nat, j < 8 → ∀ W, Calls Try.prog 61 #[.int .i64 j, .int .i64 1, .int .i64 0] W fun e w' => e = .returned (.tuple #[.int .i64 (s j), .int .i64 (t j)]) ∧ W = w'))
    (C2 : Hid (∀ j : Nat, j < 8 → ∀ W, Calls Try.prog 61 #[.int .i64 j, .int .i64 0, .int .i64 1] W fun e w' => e = .returned (.tuple #[.int .i64 (p j), .int .i64 (q j)]) ∧ W = w'))
    (hm : Hid (∀ j : Nat, j < 8 → ((x = s j ∧ y = t j ∧ u = p j ∧ v = q j) ↔ j = tgt))) (w : World) :
    Calls Try.prog 68 #[.int .i64 a, .int .i64 b] w fun e w' => e = .returned (.int .i64 tgt) ∧ w = w' := by
  go_enter Try.func68, Try.ntmps68
  go_wp2
  go_loop [5] (fun i => ∃ j : Nat, j ≤ tgt ∧ i = .int .i64 j) (fun i => 8 - (intOf i).toNat)
  case atStart => exact ⟨0, Nat.zero_le _, rfl⟩
  case round =>
    obtain ⟨j, hj, rfl⟩ := hrel
    have hj8 : j < 8 := by omega
    have hmj := Lib.hid (hm.out j hj8)
    go_wp2_with fail
    refine (A1.out _).mono ?_
    rintro e w0 ⟨rfl, rfl⟩
    go_wp2_with fail
    refine (B1.out _).mono ?_
    rintro e w0 ⟨rfl, rfl⟩
    go_wp2_with fail
    refine (A2.out _).mono ?_
    rintro e w0 ⟨rfl, rfl⟩
    go_wp2_with fail
    refine (B2.out _).mono ?_
    rintro e w0 ⟨rfl, rfl⟩
    go_wp2_with fail
    refine (C1.out _ hj8 _).mono ?_
    rintro e w0 ⟨rfl, rfl⟩
    go_wp2_with fail
    refine (C2.out _ hj8 _).mono ?_
    rintro e w0 ⟨rfl, rfl⟩
    generalize s j = sj at *
    generalize t j = tj at *
    generalize p j = pj at *
    generalize q j = qj at *
    by_cases hjt : j = tgt
    · obtain ⟨e1, e2, e3, e4⟩ := hmj.out.2 hjt
      have f1 : (x == sj) = true := by simp [e1]
      have f2 : (y == tj) = true := by simp [e2]
      have f3 : (u == pj) = true := by simp [e3]
      have f4 : (v == qj) = true := by simp [e4]
      clear e1 e2 e3 e4
      go_wp2
      go_ret
      exact ⟨rfl, rfl⟩
    · have hno : ¬ (x = sj ∧ y = tj ∧ u = pj ∧ v = qj) := fun h => hjt (hmj.out.1 h)
      have hjl : j < tgt := by omega
      have hno' := Lib.hid hno
      clear hno hjt
      by_cases g1 : x = sj
      · have f1 : (x == sj) = true := by simp [g1]
        have G1 := Lib.hid g1
        clear g1
        by_cases g2 : y = tj
        · have f2 : (y == tj) = true := by simp [g2]
          have G2 := Lib.hid g2
          clear g2
          by_cases g3 : u = pj
          · have f3 : (u == pj) = true := by simp [g3]
            have f4 : (v == qj) = false := by
              have := hno'.out
              simp only [G1.out, G2.out, g3, true_and] at this
              simpa using this
            clear g3
            go_wp2
            go_round
            case rel => exact ⟨j + 1, by omega, by go_num⟩
            case measure => simp [intOf]; omega
          · have f3 : (u == pj) = false := by simpa using g3
            clear g3
            go_wp2
            go_round
            case rel => exact ⟨j + 1, by omega, by go_num⟩
            case measure => simp [intOf]; omega
        · have f2 : (y == tj) = false := by simpa using g2
          clear g2
          go_wp2
          go_round
          case rel => exact ⟨j + 1, by omega, by go_num⟩
          case measure => simp [intOf]; omega
      · have f1 : (x == sj) = false := by simpa using g1
        clear g1
        go_wp2
        go_round
        case rel => exact ⟨j + 1, by omega, by go_num⟩
        case measure => simp [intOf]; omega

def tgtN (k : Nat) (f : Bool) (l : Nat) (g : Bool) : Nat := thenK k l g + (if f != g then 4 else 0)
theorem both_table : ∀ (k : Fin 4) (f : Bool) (l : Fin 4) (g : Bool) (j : Fin 8),
    ((dox l g 0 (dox k f 0 1 0) (doy k f 0 1 0) = dox (j % 4) (decide (4 ≤ j.val)) 0 1 0 ∧ doy l g 0 (dox k f 0 1 0) (doy k f 0 1 0) = doy (j % 4) (decide (4 ≤ j.val)) 0 1 0 ∧
      dox l g 0 (dox k f 0 0 1) (doy k f 0 0 1) = dox (j % 4) (decide (4 ≤ j.val)) 0 0 1 ∧ doy l g 0 (dox k f 0 0 1) (doy k f 0 0 1) = doy (j % 4) (decide (4 ≤ j.val)) 0 0 1) ↔ j.val = tgtN k f l g) := by
  decide +kernel
theorem tgtN_lt (k : Nat) (f : Bool) (l : Nat) (g : Bool) : tgtN k f l g < 8 := by
  have := thenK_lt k l g
  unfold tgtN; split <;> omega
theorem tgtN_lin (k : Nat) (f : Bool) (l : Nat) (g : Bool) : ((tgtN k f l g : Nat) : Int) = linN (thenK k l g) (f != g) := by
  unfold tgtN linN
  cases f <;> cases g <;> simp

theorem dox1 {k : Nat} (hk : k < 4) (f : Bool) {x y : Int} (hx : x.natAbs ≤ 1) (hy : y.natAbs ≤ 1) : (dox k f 0 x y).natAbs ≤ 4398046511104 ∧ (doy k f 0 x y).natAbs ≤ 4398046511104 := by
  unfold dox doy fl
  rcases tv_cases hk with ⟨h1, h2⟩ | ⟨h1, h2⟩ | ⟨h1, h2⟩ | ⟨h1, h2⟩ <;> rw [h1, h2] <;> cases f <;> simp <;> omega

theorem rboth {k l : Nat} (hk : k < 4) (f : Bool) (hl : l < 4) (g : Bool) (w : World) :
    Calls Try.prog 68 #[.int .i64 (linN k f), .int .i64 (linN l g)] w fun e w' => e = .returned (.int .i64 (linN (thenK k l g) (f != g))) ∧ w = w' := by
  have b1 := dox1 hk f (x := 1) (y := 0) (by omega) (by omega)
  have b2 := dox1 hk f (x := 0) (y := 1) (by omega) (by omega)
  have h := both_walk (linN k f) (linN l g) _ _ _ _ _ _ _ _ (fun j => dox (j % 4) (decide (4 ≤ j)) 0 1 0) (fun j => doy (j % 4) (decide (4 ≤ j)) 0 1 0) (fun j => dox (j % 4) (decide (4 ≤ j)) 0 0 1) (fun j => doy (j % 4) (decide (4 ≤ j)) 0 0 1)
    (tgtN k f l g) (tgtN_lt k f l g) (fun W => linear f hk (x := 1) (y := 0) (by omega) (by omega) W) (fun W => linear g hl b1.1 b1.2 W) (fun W => linear f hk (x := 0) (y := 1) (by omega) (by omega) W) (fun W => linear g hl b2.1 b2.2 W)
    (fun j hj W => linear_j hj (x := 1) (y := 0) (by omega) (by omega) W) (fun j hj W => linear_j hj (x := 0) (y := 1) (by omega) (by omega) W)
    (fun j hj => both_table ⟨k, hk⟩ f ⟨l, hl⟩ g ⟨j, hj⟩) w
  rwa [tgtN_lin] at h

/-! ### The document's Part, Which, Valid -/
set_option maxHeartbeats 1000000 in
theorem rpart_no {k : Int} (h : k < 0 ∨ 7 < k) (w : World) :
    Calls Try.prog 41 #[.int .i64 k] w fun e w' => e = .returned (.tuple #[isoZero, .int .i64 2]) ∧ Below w.heap.size w w' := by
  rcases h with h | h
  · go_enter Try.func41, Try.ntmps41
    go_wp2
    exact bodyPost_ret (v := .tuple #[isoZero, .int .i64 2]) (by simp [results, Try.results41, go_sem, isoZero]) rfl ⟨rfl, by repeat (first | exact Below.refl _ _ | refine Below.alloc ?_ (by first | omega | (simp; done) | (simp; omega)) _ | refine Below.setCell ?_ (by first | omega | (simp; done) | (simp; omega)) _ | refine Below.drew ?_)⟩
  · go_enter Try.func41, Try.ntmps41
    go_wp2
    exact bodyPost_ret (v := .tuple #[isoZero, .int .i64 2]) (by simp [results, Try.results41, go_sem, isoZero]) rfl ⟨rfl, by repeat (first | exact Below.refl _ _ | refine Below.alloc ?_ (by first | omega | (simp; done) | (simp; omega)) _ | refine Below.setCell ?_ (by first | omega | (simp; done) | (simp; omega)) _ | refine Below.drew ?_)⟩

set_option maxHeartbeats 1000000 in
theorem rpart_yes {k : Nat} (h : k < 8) (w : World) :
    Calls Try.prog 41 #[.int .i64 k] w fun e w' => e = .returned (.tuple #[isoF (k % 4) (decide (4 ≤ k)) 0 0, .int .i64 0]) ∧ Below w.heap.size w w' := by
  have K10 := fun W => rmade h (x := 0) (y := 0) (by omega) (by omega) W
  have K1 := Lib.hid K10
  clear K10
  unfold isoF at *
  generalize F (tvx (k % 4)) = a at *
  generalize F (tvy (k % 4)) = b at *
  generalize F 0 = z at *
  generalize decide (4 ≤ k) = f at *
  go_enter Try.func41, Try.ntmps41
  go_wp2_with fail
  refine (K1.out _).mono ?_
  rintro e w1 ⟨rfl, hb⟩
  obtain ⟨hc1, hf1⟩ := bcell hb
  have hs1 : w.heap.size ≤ w1.heap.size := by have := hb.size; (try simp at this); omega
  have hz1_0 : w.heap.size < w1.heap.size := by have := hb.size; (try simp at this); omega
  have hB1 := Lib.hid (below_then (B := w.heap.size) (w := w) (by repeat (first | exact Below.refl _ _ | refine Below.alloc ?_ (by first | omega | (simp; done) | (simp; omega)) _ | refine Below.setCell ?_ (by first | omega | (simp; done) | (simp; omega)) _ | refine Below.drew ?_)) hb (by first | omega | (simp; done) | (simp; omega)))
  clear hb
  go_wp2
  exact bodyPost_ret (v := .tuple #[isoV a b f z z, .int .i64 0]) (by simp [results, Try.results41, go_sem, hc1, hz1_0]) rfl ⟨rfl, by repeat (first | exact Below.refl _ _ | exact hB1.out | refine Below.alloc ?_ (by first | omega | (simp; done) | (simp; omega)) _ | refine Below.setCell ?_ (by first | omega | (simp; done) | (simp; omega)) _ | refine Below.drew ?_)⟩

set_option maxHeartbeats 1000000 in
theorem rwhich_yes {a b c d k : Nat} {x y : Int} (f : Bool) (h : IsMap a b c d k x y) (w : World) :
    Calls Try.prog 44 #[isoV a b f c d] w fun e w' => e = .returned (.tuple #[.int .i64 (linN k f), .int .i64 0]) ∧ Below w.heap.size w w' := by
  have K10 := fun W => parts_yes f h W
  have K1 := Lib.hid K10
  clear K10
  clear h
  generalize linN k f = n at *
  go_enter Try.func44, Try.ntmps44
  go_wp2_with fail
  refine (K1.out _).mono ?_
  rintro e w1 ⟨rfl, hb⟩
  obtain ⟨hc1, hf1⟩ := bcell hb
  have hs1 : w.heap.size ≤ w1.heap.size := by have := hb.size; (try simp at this); omega
  have hz1_0 : w.heap.size < w1.heap.size := by have := hb.size; (try simp at this); omega
  have hB1 := Lib.hid (below_then (B := w.heap.size) (w := w) (by repeat (first | exact Below.refl _ _ | refine Below.alloc ?_ (by first | omega | (simp; done) | (simp; omega)) _ | refine Below.setCell ?_ (by first | omega | (simp; done) | (simp; omega)) _ | refine Below.drew ?_)) hb (by first | omega | (simp; done) | (simp; omega)))
  clear hb
  go_wp2
  go_ret2
  exact ⟨rfl, by repeat (first | exact Below.refl _ _ | exact hB1.out | refine Below.alloc ?_ (by first | omega | (simp; done) | (simp; omega)) _ | refine Below.setCell ?_ (by first | omega | (simp; done) | (simp; omega)) _ | refine Below.drew ?_)⟩

set_option maxHeartbeats 1000000 in
theorem rwhich_no {a b c d : Nat} (f : Bool) (hw : Wide a b c d) (h : ¬ ∃ k x y, IsMap a b c d k x y) (w : World) :
    Calls Try.prog 44 #[isoV a b f c d] w fun e w' => e = .returned (.tuple #[.int .i64 0, .int .i64 50]) ∧ Below w.heap.size w w' := by
  have K10 := fun W => parts_no f hw h W
  have K1 := Lib.hid K10
  clear K10
  unfold noParts at K1
  clear h hw
  go_enter Try.func44, Try.ntmps44
  go_wp2_with fail
  refine (K1.out _).mono ?_
  rintro e w1 ⟨rfl, hb⟩
  obtain ⟨hc1, hf1⟩ := bcell hb
  have hs1 : w.heap.size ≤ w1.heap.size := by have := hb.size; (try simp at this); omega
  have hz1_0 : w.heap.size < w1.heap.size := by have := hb.size; (try simp at this); omega
  have hB1 := Lib.hid (below_then (B := w.heap.size) (w := w) (by repeat (first | exact Below.refl _ _ | refine Below.alloc ?_ (by first | omega | (simp; done) | (simp; omega)) _ | refine Below.setCell ?_ (by first | omega | (simp; done) | (simp; omega)) _ | refine Below.drew ?_)) hb (by first | omega | (simp; done) | (simp; omega)))
  clear hb
  go_wp2
  go_ret2
  exact ⟨rfl, by repeat (first | exact Below.refl _ _ | exact hB1.out | refine Below.alloc ?_ (by first | omega | (simp; done) | (simp; omega)) _ | refine Below.setCell ?_ (by first | omega | (simp; done) | (simp; omega)) _ | refine Below.drew ?_)⟩

set_option maxHeartbeats 1000000 in
theorem rvalid_yes {a b c d k : Nat} {x y : Int} (f : Bool) (h : IsMap a b c d k x y) (w : World) :
    Calls Try.prog 47 #[isoV a b f c d] w fun e w' => e = .returned (.bool true) ∧ Below w.heap.size w w' := by
  have K10 := fun W => parts_yes f h W
  have K1 := Lib.hid K10
  clear K10
  clear h
  generalize linN k f = n at *
  go_enter Try.func47, Try.ntmps47
  go_wp2_with fail
  refine (K1.out _).mono ?_
  rintro e w1 ⟨rfl, hb⟩
  obtain ⟨hc1, hf1⟩ := bcell hb
  have hs1 : w.heap.size ≤ w1.heap.size := by have := hb.size; (try simp at this); omega
  have hz1_0 : w.heap.size < w1.heap.size := by have := hb.size; (try simp at this); omega
  have hB1 := Lib.hid (below_then (B := w.heap.size) (w := w) (by repeat (first | exact Below.refl _ _ | refine Below.alloc ?_ (by first | omega | (simp; done) | (simp; omega)) _ | refine Below.setCell ?_ (by first | omega | (simp; done) | (simp; omega)) _ | refine Below.drew ?_)) hb (by first | omega | (simp; done) | (simp; omega)))
  clear hb
  go_wp2
  go_ret
  exact ⟨rfl, by repeat (first | exact Below.refl _ _ | exact hB1.out | refine Below.alloc ?_ (by first | omega | (simp; done) | (simp; omega)) _ | refine Below.setCell ?_ (by first | omega | (simp; done) | (simp; omega)) _ | refine Below.drew ?_)⟩

set_option maxHeartbeats 1000000 in
theorem rvalid_no {a b c d : Nat} (f : Bool) (hw : Wide a b c d) (h : ¬ ∃ k x y, IsMap a b c d k x y) (w : World) :
    Calls Try.prog 47 #[isoV a b f c d] w fun e w' => e = .returned (.bool false) ∧ Below w.heap.size w w' := by
  have K10 := fun W => parts_no f hw h W
  have K1 := Lib.hid K10
  clear K10
  unfold noParts at K1
  clear h hw
  go_enter Try.func47, Try.ntmps47
  go_wp2_with fail
  refine (K1.out _).mono ?_
  rintro e w1 ⟨rfl, hb⟩
  obtain ⟨hc1, hf1⟩ := bcell hb
  have hs1 : w.heap.size ≤ w1.heap.size := by have := hb.size; (try simp at this); omega
  have hz1_0 : w.heap.size < w1.heap.size := by have := hb.size; (try simp at this); omega
  have hB1 := Lib.hid (below_then (B := w.heap.size) (w := w) (by repeat (first | exact Below.refl _ _ | refine Below.alloc ?_ (by first | omega | (simp; done) | (simp; omega)) _ | refine Below.setCell ?_ (by first | omega | (simp; done) | (simp; omega)) _ | refine Below.drew ?_)) hb (by first | omega | (simp; done) | (simp; omega)))
  clear hb
  go_wp2
  go_ret
  exact ⟨rfl, by repeat (first | exact Below.refl _ _ | exact hB1.out | refine Below.alloc ?_ (by first | omega | (simp; done) | (simp; omega)) _ | refine Below.setCell ?_ (by first | omega | (simp; done) | (simp; omega)) _ | refine Below.drew ?_)⟩

/-! ### The document's Then, Same -/
set_option maxHeartbeats 1000000 in
theorem rthen_no1 {a b c d a' b' c' d' : Nat} (f g : Bool) (hw : Wide a b c d) (h : ¬ ∃ k x y, IsMap a b c d k x y) (hw' : Wide a' b' c' d') (w : World) :
    Calls Try.prog 37 #[isoV a b f c d, isoV a' b' g c' d'] w fun e w' => e = .returned (.tuple #[isoZero, .int .i64 50]) ∧ Below w.heap.size w w' := by
  have K10 := fun W => parts_no f hw h W
  have K1 := Lib.hid K10
  clear K10
  unfold noParts at K1
  by_cases h' : ∃ k x y, IsMap a' b' c' d' k x y
  · obtain ⟨k, x, y, h'⟩ := h'
    have K20 := fun W => parts_yes g h' W
    have K2 := Lib.hid K20
    clear K20
    clear h hw h' hw'
    generalize linN k g = n at *
    go_enter Try.func37, Try.ntmps37
    go_wp2_with fail
    refine (K1.out _).mono ?_
    rintro e w1 ⟨rfl, hb⟩
    obtain ⟨hc1, hf1⟩ := bcell hb
    have hs1 : w.heap.size ≤ w1.heap.size := by have := hb.size; (try simp at this); omega
    have hz1_0 : w.heap.size < w1.heap.size := by have := hb.size; (try simp at this); omega
    have hz1_1 : w.heap.size + 1 < w1.heap.size := by have := hb.size; (try simp at this); omega
    have hz1_2 : w.heap.size + 1 + 1 < w1.heap.size := by have := hb.size; (try simp at this); omega
    have hB1 := Lib.hid (below_then (B := w.heap.size) (w := w) (by repeat (first | exact Below.refl _ _ | refine Below.alloc ?_ (by first | omega | (simp; done) | (simp; omega)) _ | refine Below.setCell ?_ (by first | omega | (simp; done) | (simp; omega)) _ | refine Below.drew ?_)) hb (by first | omega | (simp; done) | (simp; omega)))
    clear hb
    go_wp2_with fail
    refine (K2.out _).mono ?_
    rintro e w2 ⟨rfl, hb⟩
    obtain ⟨hc2, hf2⟩ := bcell hb
    have hs2 : w.heap.size ≤ w2.heap.size := by have := hb.size; (try simp at this); omega
    have hz2_0 : w.heap.size < w2.heap.size := by have := hb.size; (try simp at this); omega
    have hz2_1 : w.heap.size + 1 < w2.heap.size := by have := hb.size; (try simp at this); omega
    have hz2_2 : w.heap.size + 1 + 1 < w2.heap.size := by have := hb.size; (try simp at this); omega
    have hB2 := Lib.hid (below_then (B := w.heap.size) (w := w) (by repeat (first | exact Below.refl _ _ | exact hB1.out | refine Below.alloc ?_ (by first | omega | (simp; done) | (simp; omega)) _ | refine Below.setCell ?_ (by first | omega | (simp; done) | (simp; omega)) _ | refine Below.drew ?_)) hb (by first | omega | (simp; done) | (simp; omega)))
    clear hb
    go_wp2
    exact bodyPost_ret (v := .tuple #[isoZero, .int .i64 50]) (by simp [results, Try.results37, go_sem, hc1, hc2, hz1_0, hz1_1, hz1_2, hz2_0, hz2_1, hz2_2, isoZero]) rfl ⟨rfl, by repeat (first | exact Below.refl _ _ | exact hB2.out | exact hB1.out | refine Below.alloc ?_ (by first | omega | (simp; done) | (simp; omega)) _ | refine Below.setCell ?_ (by first | omega | (simp; done) | (simp; omega)) _ | refine Below.drew ?_)⟩
  · have K20 := fun W => parts_no g hw' h' W
    have K2 := Lib.hid K20
    clear K20
    unfold noParts at K2
    clear h hw h' hw'
    go_enter Try.func37, Try.ntmps37
    go_wp2_with fail
    refine (K1.out _).mono ?_
    rintro e w1 ⟨rfl, hb⟩
    obtain ⟨hc1, hf1⟩ := bcell hb
    have hs1 : w.heap.size ≤ w1.heap.size := by have := hb.size; (try simp at this); omega
    have hz1_0 : w.heap.size < w1.heap.size := by have := hb.size; (try simp at this); omega
    have hz1_1 : w.heap.size + 1 < w1.heap.size := by have := hb.size; (try simp at this); omega
    have hz1_2 : w.heap.size + 1 + 1 < w1.heap.size := by have := hb.size; (try simp at this); omega
    have hB1 := Lib.hid (below_then (B := w.heap.size) (w := w) (by repeat (first | exact Below.refl _ _ | refine Below.alloc ?_ (by first | omega | (simp; done) | (simp; omega)) _ | refine Below.setCell ?_ (by first | omega | (simp; done) | (simp; omega)) _ | refine Below.drew ?_)) hb (by first | omega | (simp; done) | (simp; omega)))
    clear hb
    go_wp2_with fail
    refine (K2.out _).mono ?_
    rintro e w2 ⟨rfl, hb⟩
    obtain ⟨hc2, hf2⟩ := bcell hb
    have hs2 : w.heap.size ≤ w2.heap.size := by have := hb.size; (try simp at this); omega
    have hz2_0 : w.heap.size < w2.heap.size := by have := hb.size; (try simp at this); omega
    have hz2_1 : w.heap.size + 1 < w2.heap.size := by have := hb.size; (try simp at this); omega
    have hz2_2 : w.heap.size + 1 + 1 < w2.heap.size := by have := hb.size; (try simp at this); omega
    have hB2 := Lib.hid (below_then (B := w.heap.size) (w := w) (by repeat (first | exact Below.refl _ _ | exact hB1.out | refine Below.alloc ?_ (by first | omega | (simp; done) | (simp; omega)) _ | refine Below.setCell ?_ (by first | omega | (simp; done) | (simp; omega)) _ | refine Below.drew ?_)) hb (by first | omega | (simp; done) | (simp; omega)))
    clear hb
    go_wp2
    exact bodyPost_ret (v := .tuple #[isoZero, .int .i64 50]) (by simp [results, Try.results37, go_sem, hc1, hc2, hz1_0, hz1_1, hz1_2, hz2_0, hz2_1, hz2_2, isoZero]) rfl ⟨rfl, by repeat (first | exact Below.refl _ _ | exact hB2.out | exact hB1.out | refine Below.alloc ?_ (by first | omega | (simp; done) | (simp; omega)) _ | refine Below.setCell ?_ (by first | omega | (simp; done) | (simp; omega)) _ | refine Below.drew ?_)⟩

set_option maxHeartbeats 1000000 in
theorem rthen_no2 {a b c d a' b' c' d' k : Nat} {x y : Int} (f g : Bool) (h : IsMap a b c d k x y) (hw' : Wide a' b' c' d') (h' : ¬ ∃ k x y, IsMap a' b' c' d' k x y) (w : World) :
    Calls Try.prog 37 #[isoV a b f c d, isoV a' b' g c' d'] w fun e w' => e = .returned (.tuple #[isoZero, .int .i64 50]) ∧ Below w.heap.size w w' := by
  have K10 := fun W => parts_yes f h W
  have K1 := Lib.hid K10
  clear K10
  have K20 := fun W => parts_no g hw' h' W
  have K2 := Lib.hid K20
  clear K20
  unfold noParts at K2
  clear h h' hw'
  generalize linN k f = n at *
  go_enter Try.func37, Try.ntmps37
  go_wp2_with fail
  refine (K1.out _).mono ?_
  rintro e w1 ⟨rfl, hb⟩
  obtain ⟨hc1, hf1⟩ := bcell hb
  have hs1 : w.heap.size ≤ w1.heap.size := by have := hb.size; (try simp at this); omega
  have hz1_0 : w.heap.size < w1.heap.size := by have := hb.size; (try simp at this); omega
  have hz1_1 : w.heap.size + 1 < w1.heap.size := by have := hb.size; (try simp at this); omega
  have hz1_2 : w.heap.size + 1 + 1 < w1.heap.size := by have := hb.size; (try simp at this); omega
  have hB1 := Lib.hid (below_then (B := w.heap.size) (w := w) (by repeat (first | exact Below.refl _ _ | refine Below.alloc ?_ (by first | omega | (simp; done) | (simp; omega)) _ | refine Below.setCell ?_ (by first | omega | (simp; done) | (simp; omega)) _ | refine Below.drew ?_)) hb (by first | omega | (simp; done) | (simp; omega)))
  clear hb
  go_wp2_with fail
  refine (K2.out _).mono ?_
  rintro e w2 ⟨rfl, hb⟩
  obtain ⟨hc2, hf2⟩ := bcell hb
  have hs2 : w.heap.size ≤ w2.heap.size := by have := hb.size; (try simp at this); omega
  have hz2_0 : w.heap.size < w2.heap.size := by have := hb.size; (try simp at this); omega
  have hz2_1 : w.heap.size + 1 < w2.heap.size := by have := hb.size; (try simp at this); omega
  have hz2_2 : w.heap.size + 1 + 1 < w2.heap.size := by have := hb.size; (try simp at this); omega
  have hB2 := Lib.hid (below_then (B := w.heap.size) (w := w) (by repeat (first | exact Below.refl _ _ | exact hB1.out | refine Below.alloc ?_ (by first | omega | (simp; done) | (simp; omega)) _ | refine Below.setCell ?_ (by first | omega | (simp; done) | (simp; omega)) _ | refine Below.drew ?_)) hb (by first | omega | (simp; done) | (simp; omega)))
  clear hb
  go_wp2
  exact bodyPost_ret (v := .tuple #[isoZero, .int .i64 50]) (by simp [results, Try.results37, go_sem, hc1, hc2, hz1_0, hz1_1, hz1_2, hz2_0, hz2_1, hz2_2, isoZero]) rfl ⟨rfl, by repeat (first | exact Below.refl _ _ | exact hB2.out | exact hB1.out | refine Below.alloc ?_ (by first | omega | (simp; done) | (simp; omega)) _ | refine Below.setCell ?_ (by first | omega | (simp; done) | (simp; omega)) _ | refine Below.drew ?_)⟩

set_option maxHeartbeats 4000000 in
theorem rthen_yes {a b c d a' b' c' d' k l : Nat} {x y x' y' : Int} (f g : Bool) (h : IsMap a b c d k x y) (h' : IsMap a' b' c' d' l x' y') (w : World) :
    Calls Try.prog 37 #[isoV a b f c d, isoV a' b' g c' d'] w fun e w' => e = .returned (farV (nearB (dox l g x' x y) (doy l g y' x y)) (isoF (thenK k l g) (f != g) (dox l g x' x y) (doy l g y' x y))) ∧ Below w.heap.size w w' := by
  have K10 := fun W => parts_yes f h W
  have K1 := Lib.hid K10
  clear K10
  have K20 := fun W => parts_yes g h' W
  have K2 := Lib.hid K20
  clear K20
  have K30 := fun W => linear g h'.turn.1 (x := x) (y := y) (by have := h.x.2; omega) (by have := h.y.2; omega) W
  have K3 := Lib.hid K30
  clear K30
  have K40 := fun W => rboth h.turn.1 f h'.turn.1 g W
  have K4 := Lib.hid K40
  clear K40
  obtain ⟨b1, b2⟩ := dox_bound (k := l) h'.turn.1 g (x := 0) (y := 0) (u := x) (v := y) (by omega) (by omega) (by have h5 := h.x.2; have h6 := h.y.2; unfold Near; omega)
  have bm := h'.x.2
  have bn := h'.y.2
  rw [← dox_move, ← doy_move, nearB_nr]
  have K50 := fun W => rmade_lin (f != g) (thenK_lt k l g) (x := dox l g 0 x y + x') (y := doy l g 0 x y + y') (by omega) (by omega) W
  have K5 := Lib.hid K50
  clear K50
  have l1 : -4398046511104 ≤ dox l g 0 x y := by omega
  have l2 : dox l g 0 x y ≤ 4398046511104 := by omega
  have l3 : -4398046511104 ≤ doy l g 0 x y := by omega
  have l4 : doy l g 0 x y ≤ 4398046511104 := by omega
  have m1 : -1099511627776 ≤ x' := by omega
  have m2 : x' ≤ 1099511627776 := by omega
  have m3 : -1099511627776 ≤ y' := by omega
  have m4 : y' ≤ 1099511627776 := by omega
  clear h h' b1 b2 bm bn
  unfold isoF at *
  generalize dox l g 0 x y = U at *
  generalize doy l g 0 x y = V at *
  generalize linN (thenK k l g) (f != g) = tn at *
  generalize F (tvx (thenK k l g)) = p1 at *
  generalize F (tvy (thenK k l g)) = p2 at *
  generalize F (U + x') = p3 at *
  generalize F (V + y') = p4 at *
  generalize (f != g) = fg at *
  generalize linN k f = n1 at *
  generalize linN l g = n2 at *
  cases r1 : nr (U + x') with
  | false =>
    have J10 := fun W => rnear_b r1 W
    have J1 := Lib.hid J10
    clear J10
    clear r1
    go_enter Try.func37, Try.ntmps37
    go_wp2_with fail
    refine (K1.out _).mono ?_
    rintro e w1 ⟨rfl, hb⟩
    obtain ⟨hc1, hf1⟩ := bcell hb
    have hs1 : w.heap.size ≤ w1.heap.size := by have := hb.size; (try simp at this); omega
    have hz1_0 : w.heap.size < w1.heap.size := by have := hb.size; (try simp at this); omega
    have hz1_1 : w.heap.size + 1 < w1.heap.size := by have := hb.size; (try simp at this); omega
    have hz1_2 : w.heap.size + 1 + 1 < w1.heap.size := by have := hb.size; (try simp at this); omega
    have hB1 := Lib.hid (below_then (B := w.heap.size) (w := w) (by repeat (first | exact Below.refl _ _ | refine Below.alloc ?_ (by first | omega | (simp; done) | (simp; omega)) _ | refine Below.setCell ?_ (by first | omega | (simp; done) | (simp; omega)) _ | refine Below.drew ?_)) hb (by first | omega | (simp; done) | (simp; omega)))
    clear hb
    go_wp2_with fail
    refine (K2.out _).mono ?_
    rintro e w2 ⟨rfl, hb⟩
    obtain ⟨hc2, hf2⟩ := bcell hb
    have hs2 : w.heap.size ≤ w2.heap.size := by have := hb.size; (try simp at this); omega
    have hz2_0 : w.heap.size < w2.heap.size := by have := hb.size; (try simp at this); omega
    have hz2_1 : w.heap.size + 1 < w2.heap.size := by have := hb.size; (try simp at this); omega
    have hz2_2 : w.heap.size + 1 + 1 < w2.heap.size := by have := hb.size; (try simp at this); omega
    have hB2 := Lib.hid (below_then (B := w.heap.size) (w := w) (by repeat (first | exact Below.refl _ _ | exact hB1.out | refine Below.alloc ?_ (by first | omega | (simp; done) | (simp; omega)) _ | refine Below.setCell ?_ (by first | omega | (simp; done) | (simp; omega)) _ | refine Below.drew ?_)) hb (by first | omega | (simp; done) | (simp; omega)))
    clear hb
    go_wp2_with fail
    refine (K3.out _).mono ?_
    rintro e w0 ⟨rfl, rfl⟩
    go_wp2_with fail
    refine (J1.out _).mono ?_
    rintro e w0 ⟨rfl, rfl⟩
    go_wp2
    exact bodyPost_ret (v := .tuple #[isoZero, .int .i64 5]) (by simp [results, Try.results37, go_sem, hc1, hc2, hz1_0, hz1_1, hz1_2, hz2_0, hz2_1, hz2_2, isoZero]) rfl ⟨rfl, by repeat (first | exact Below.refl _ _ | exact hB2.out | exact hB1.out | refine Below.alloc ?_ (by first | omega | (simp; done) | (simp; omega)) _ | refine Below.setCell ?_ (by first | omega | (simp; done) | (simp; omega)) _ | refine Below.drew ?_)⟩
  | true =>
    cases r2 : nr (V + y') with
    | false =>
      have J10 := fun W => rnear_b r1 W
      have J1 := Lib.hid J10
      clear J10
      have J20 := fun W => rnear_b r2 W
      have J2 := Lib.hid J20
      clear J20
      clear r1 r2
      go_enter Try.func37, Try.ntmps37
      go_wp2_with fail
      refine (K1.out _).mono ?_
      rintro e w1 ⟨rfl, hb⟩
      obtain ⟨hc1, hf1⟩ := bcell hb
      have hs1 : w.heap.size ≤ w1.heap.size := by have := hb.size; (try simp at this); omega
      have hz1_0 : w.heap.size < w1.heap.size := by have := hb.size; (try simp at this); omega
      have hz1_1 : w.heap.size + 1 < w1.heap.size := by have := hb.size; (try simp at this); omega
      have hz1_2 : w.heap.size + 1 + 1 < w1.heap.size := by have := hb.size; (try simp at this); omega
      have hB1 := Lib.hid (below_then (B := w.heap.size) (w := w) (by repeat (first | exact Below.refl _ _ | refine Below.alloc ?_ (by first | omega | (simp; done) | (simp; omega)) _ | refine Below.setCell ?_ (by first | omega | (simp; done) | (simp; omega)) _ | refine Below.drew ?_)) hb (by first | omega | (simp; done) | (simp; omega)))
      clear hb
      go_wp2_with fail
      refine (K2.out _).mono ?_
      rintro e w2 ⟨rfl, hb⟩
      obtain ⟨hc2, hf2⟩ := bcell hb
      have hs2 : w.heap.size ≤ w2.heap.size := by have := hb.size; (try simp at this); omega
      have hz2_0 : w.heap.size < w2.heap.size := by have := hb.size; (try simp at this); omega
      have hz2_1 : w.heap.size + 1 < w2.heap.size := by have := hb.size; (try simp at this); omega
      have hz2_2 : w.heap.size + 1 + 1 < w2.heap.size := by have := hb.size; (try simp at this); omega
      have hB2 := Lib.hid (below_then (B := w.heap.size) (w := w) (by repeat (first | exact Below.refl _ _ | exact hB1.out | refine Below.alloc ?_ (by first | omega | (simp; done) | (simp; omega)) _ | refine Below.setCell ?_ (by first | omega | (simp; done) | (simp; omega)) _ | refine Below.drew ?_)) hb (by first | omega | (simp; done) | (simp; omega)))
      clear hb
      go_wp2_with fail
      refine (K3.out _).mono ?_
      rintro e w0 ⟨rfl, rfl⟩
      go_wp2_with fail
      refine (J1.out _).mono ?_
      rintro e w0 ⟨rfl, rfl⟩
      go_wp2_with fail
      refine (J2.out _).mono ?_
      rintro e w0 ⟨rfl, rfl⟩
      go_wp2
      exact bodyPost_ret (v := .tuple #[isoZero, .int .i64 5]) (by simp [results, Try.results37, go_sem, hc1, hc2, hz1_0, hz1_1, hz1_2, hz2_0, hz2_1, hz2_2, isoZero]) rfl ⟨rfl, by repeat (first | exact Below.refl _ _ | exact hB2.out | exact hB1.out | refine Below.alloc ?_ (by first | omega | (simp; done) | (simp; omega)) _ | refine Below.setCell ?_ (by first | omega | (simp; done) | (simp; omega)) _ | refine Below.drew ?_)⟩
    | true =>
      have J10 := fun W => rnear_b r1 W
      have J1 := Lib.hid J10
      clear J10
      have J20 := fun W => rnear_b r2 W
      have J2 := Lib.hid J20
      clear J20
      clear r1 r2
      go_enter Try.func37, Try.ntmps37
      go_wp2_with fail
      refine (K1.out _).mono ?_
      rintro e w1 ⟨rfl, hb⟩
      obtain ⟨hc1, hf1⟩ := bcell hb
      have hs1 : w.heap.size ≤ w1.heap.size := by have := hb.size; (try simp at this); omega
      have hz1_0 : w.heap.size < w1.heap.size := by have := hb.size; (try simp at this); omega
      have hz1_1 : w.heap.size + 1 < w1.heap.size := by have := hb.size; (try simp at this); omega
      have hz1_2 : w.heap.size + 1 + 1 < w1.heap.size := by have := hb.size; (try simp at this); omega
      have hB1 := Lib.hid (below_then (B := w.heap.size) (w := w) (by repeat (first | exact Below.refl _ _ | refine Below.alloc ?_ (by first | omega | (simp; done) | (simp; omega)) _ | refine Below.setCell ?_ (by first | omega | (simp; done) | (simp; omega)) _ | refine Below.drew ?_)) hb (by first | omega | (simp; done) | (simp; omega)))
      clear hb
      go_wp2_with fail
      refine (K2.out _).mono ?_
      rintro e w2 ⟨rfl, hb⟩
      obtain ⟨hc2, hf2⟩ := bcell hb
      have hs2 : w.heap.size ≤ w2.heap.size := by have := hb.size; (try simp at this); omega
      have hz2_0 : w.heap.size < w2.heap.size := by have := hb.size; (try simp at this); omega
      have hz2_1 : w.heap.size + 1 < w2.heap.size := by have := hb.size; (try simp at this); omega
      have hz2_2 : w.heap.size + 1 + 1 < w2.heap.size := by have := hb.size; (try simp at this); omega
      have hB2 := Lib.hid (below_then (B := w.heap.size) (w := w) (by repeat (first | exact Below.refl _ _ | exact hB1.out | refine Below.alloc ?_ (by first | omega | (simp; done) | (simp; omega)) _ | refine Below.setCell ?_ (by first | omega | (simp; done) | (simp; omega)) _ | refine Below.drew ?_)) hb (by first | omega | (simp; done) | (simp; omega)))
      clear hb
      go_wp2_with fail
      refine (K3.out _).mono ?_
      rintro e w0 ⟨rfl, rfl⟩
      go_wp2_with fail
      refine (J1.out _).mono ?_
      rintro e w0 ⟨rfl, rfl⟩
      go_wp2_with fail
      refine (J2.out _).mono ?_
      rintro e w0 ⟨rfl, rfl⟩
      go_wp2_with fail
      refine (K4.out _).mono ?_
      rintro e w0 ⟨rfl, rfl⟩
      go_wp2_with fail
      refine (K5.out _).mono ?_
      rintro e w3 ⟨rfl, hb⟩
      obtain ⟨hc3, hf3⟩ := bcell hb
      have hs3 : w.heap.size ≤ w3.heap.size := by have := hb.size; (try simp at this); omega
      have hz3_0 : w.heap.size < w3.heap.size := by have := hb.size; (try simp at this); omega
      have hz3_1 : w.heap.size + 1 < w3.heap.size := by have := hb.size; (try simp at this); omega
      have hz3_2 : w.heap.size + 1 + 1 < w3.heap.size := by have := hb.size; (try simp at this); omega
      have hB3 := Lib.hid (below_then (B := w.heap.size) (w := w) (by repeat (first | exact Below.refl _ _ | exact hB2.out | exact hB1.out | refine Below.alloc ?_ (by first | omega | (simp; done) | (simp; omega)) _ | refine Below.setCell ?_ (by first | omega | (simp; done) | (simp; omega)) _ | refine Below.drew ?_)) hb (by first | omega | (simp; done) | (simp; omega)))
      clear hb
      go_wp2
      exact bodyPost_ret (v := .tuple #[isoV p1 p2 fg p3 p4, .int .i64 0]) (by simp [results, Try.results37, go_sem, hc1, hc2, hc3, hz1_0, hz1_1, hz1_2, hz2_0, hz2_1, hz2_2, hz3_0, hz3_1, hz3_2]) rfl ⟨rfl, by repeat (first | exact Below.refl _ _ | exact hB3.out | exact hB2.out | exact hB1.out | refine Below.alloc ?_ (by first | omega | (simp; done) | (simp; omega)) _ | refine Below.setCell ?_ (by first | omega | (simp; done) | (simp; omega)) _ | refine Below.drew ?_)⟩

def noSame : Value := .tuple #[.bool false, .int .i64 50]
end Go.Proofs.Ytjomgjlicfoehaa
