import Derived.Test.YtjomgjlicfoehaaIsoL
import Derived.Deep.RegionHeld3
import Derived.Deep.QuietTactic
import Derived.BigQuiet
import Derived.IntWalk
namespace Go.Proofs.Ytjomgjlicfoehaa
open Go.RowKit Flt
attribute [local go_sem] run_store_float run_store_complex unary_neg_float unary_neg_complex
set_option linter.unusedSimpArgs false
set_option linter.unusedVariables false

/-- The number of a linear part out of any number. -/
def kN (k : Int) : Nat := ((k.tmod 8 + 8).tmod 8).toNat
theorem kN_lt (k : Int) : kN k < 8 := by
  unfold kN
  have h1 := Int.tmod_lt_of_pos k (show (0 : Int) < 8 by omega)
  have h2 : -8 < k.tmod 8 := Int.lt_tmod_of_pos k (by omega)
  have h3 : 0 ≤ k.tmod 8 + 8 := by omega
  have := Int.tmod_lt_of_pos (k.tmod 8 + 8) (show (0 : Int) < 8 by omega)
  have := Int.tmod_nonneg 8 h3
  omega
theorem kN_cast (k : Int) : ((k.tmod 8 + 8).tmod 8) = (kN k : Int) := by
  unfold kN
  have h2 : -8 < k.tmod 8 := Int.lt_tmod_of_pos k (by omega)
  have := Int.tmod_nonneg 8 (show 0 ≤ k.tmod 8 + 8 by omega)
  omega
def rem30 (x : Int) : Int := x.tmod 1073741824
theorem rem30_lt (x : Int) : -1073741824 < rem30 x ∧ rem30 x < 1073741824 :=
  ⟨Int.lt_tmod_of_pos x (by omega), Int.tmod_lt_of_pos x (by omega)⟩

def kF (k : Int) : Bool := decide (4 ≤ kN k)

set_option maxHeartbeats 400000 in
theorem lnear (x y : Int) (w : World) : Calls Try.prog 32 #[.agg #[.int .i64 x, .int .i64 y]] w fun e w' => e = .returned (.agg #[.int .i64 (rem30 x), .int .i64 (rem30 y)]) ∧ Below w.heap.size w w' := by
  go_enter Try.func32, Try.ntmps32
  go_wp2
  exact bodyPost_ret (v := .agg #[.int .i64 (rem30 x), .int .i64 (rem30 y)]) (by simp [results, Try.results32, go_sem, rem30]) rfl ⟨rfl, by repeat (first | exact Below.refl _ _ | refine Below.alloc ?_ (by first | omega | (simp; done) | (simp; omega)) _ | refine Below.setCell ?_ (by first | omega | (simp; done) | (simp; omega)) _ | refine Below.drew ?_)⟩

theorem kN_wrap (k : Int) : (wrap64 (k.tmod 8 + 8)).tmod 8 = (kN k : Int) := by
  rw [← kN_cast]
  have h1 := Int.tmod_lt_of_pos k (show (0 : Int) < 8 by omega)
  have h2 : -8 < k.tmod 8 := Int.lt_tmod_of_pos k (by omega)
  congr 1
  unfold wrap64
  omega

theorem then_shift {k : Nat} (f : Bool) {x y : Int} (hk : k < 4) (hx : x.natAbs ≤ 1099511627776) (hy : y.natAbs ≤ 1099511627776) (w : World) :
    Calls Try.prog 36 #[isoF k f 0 0, isoF 0 false x y] w fun e w' => e = .returned (.tuple #[isoF k f x y, .int .i64 0]) ∧ Below w.heap.size w w' := by
  have h := then_dir f (isMap_F (x := 0) (y := 0) hk (by omega) (by omega)) (isMap_F (k := 0) (x := x) (y := y) (by omega) hx hy) w
  have e1 : dox 0 false x 0 0 = x := by simp [dox, tvx, tvy, fl]
  have e2 : doy 0 false y 0 0 = y := by simp [doy, tvx, tvy, fl]
  have e3 : thenK k 0 false = k := by unfold thenK; simp; omega
  have e4 : nearB x y = true := nearB_yes (by unfold Near; omega)
  rw [e1, e2, e3, e4, show (f != false) = f from by cases f <;> rfl] at h
  exact h

set_option maxHeartbeats 4000000 in
theorem lmade (k x y : Int) (w : World) : Calls Try.prog 31 #[.int .i64 k, .int .i64 x, .int .i64 y] w fun e w' => e = .returned (.tuple #[isoF (kN k % 4) (kF k) (rem30 x) (rem30 y), .bool true]) ∧ Below w.heap.size w w' := by
  have hkk := kN_lt k
  have hx := rem30_lt x
  have hy := rem30_lt y
  have c1 : ∀ W, Calls Try.prog 40 #[.int .i64 (kN k)] W fun e w' => e = .returned (.tuple #[isoF (kN k % 4) (kF k) 0 0, .int .i64 0]) ∧ Below W.heap.size W w' := fun W => part_yes hkk W
  have c2 : ∀ W, Calls Try.prog 28 #[.int .i64 (x.tmod 1073741824), .int .i64 (y.tmod 1073741824)] W fun e w' => e = .returned (.tuple #[isoF 0 false (rem30 x) (rem30 y), .int .i64 0]) ∧ Below W.heap.size W w' := fun W => shift_yes (x := rem30 x) (y := rem30 y) ⟨by omega, by omega, by omega, by omega⟩ W
  have c3 : ∀ W, Calls Try.prog 36 #[isoF (kN k % 4) (kF k) 0 0, isoF 0 false (rem30 x) (rem30 y)] W fun e w' => e = .returned (.tuple #[isoF (kN k % 4) (kF k) (rem30 x) (rem30 y), .int .i64 0]) ∧ Below W.heap.size W w' := fun W => then_shift _ (by omega) (by omega) (by omega) W
  have c4 : ∀ W, Calls Try.prog 30 #[isoF (kN k % 4) (kF k) (rem30 x) (rem30 y)] W fun e w' => e = .returned (.bool true) ∧ Below W.heap.size W w' := fun W => valid_yes _ (isMap_F (by omega) (by omega) (by omega)) W
  have d1 := Lib.hid c1
  have d2 := Lib.hid c2
  have d3 := Lib.hid c3
  have d4 := Lib.hid c4
  clear c1 c2 c3 c4 hkk hx hy
  have hkw := kN_wrap k
  unfold isoF at *
  generalize kN k = K at *
  generalize F (tvx (K % 4)) = a at *
  generalize F (tvy (K % 4)) = b at *
  generalize kF k = f at *
  generalize F (rem30 x) = c at *
  generalize F (rem30 y) = d at *
  generalize F (tvx 0) = x0 at *
  generalize F (tvy 0) = y0 at *
  generalize F 0 = z at *
  have hkw' := Lib.hid hkw
  clear hkw
  go_enter Try.func31, Try.ntmps31
  go_wp2_with fail
  rw [hkw'.out]
  go_wp2_with fail
  refine (d1.out _).mono ?_
  rintro e w1 ⟨rfl, hb⟩
  obtain ⟨hc1, hf1⟩ := bcell hb
  have hs1 : w.heap.size ≤ w1.heap.size := by have := hb.size; (try simp at this); omega
  have hz1_0 : w.heap.size < w1.heap.size := by have := hb.size; (try simp at this); omega
  have hB1 := Lib.hid (below_then (B := w.heap.size) (w := w) (by repeat (first | exact Below.refl _ _ | refine Below.alloc ?_ (by first | omega | (simp; done) | (simp; omega)) _ | refine Below.setCell ?_ (by first | omega | (simp; done) | (simp; omega)) _ | refine Below.drew ?_)) hb (by first | omega | (simp; done) | (simp; omega)))
  clear hb
  go_wp2_with fail
  refine (d2.out _).mono ?_
  rintro e w2 ⟨rfl, hb⟩
  obtain ⟨hc2, hf2⟩ := bcell hb
  have hs2 : w.heap.size ≤ w2.heap.size := by have := hb.size; (try simp at this); omega
  have hz2_0 : w.heap.size < w2.heap.size := by have := hb.size; (try simp at this); omega
  have hz2_1 : w1.heap.size < w2.heap.size := by have := hb.size; (try simp at this); omega
  have hB2 := Lib.hid (below_then (B := w.heap.size) (w := w) (by repeat (first | exact Below.refl _ _ | exact hB1.out | refine Below.alloc ?_ (by first | omega | (simp; done) | (simp; omega)) _ | refine Below.setCell ?_ (by first | omega | (simp; done) | (simp; omega)) _ | refine Below.drew ?_)) hb (by first | omega | (simp; done) | (simp; omega)))
  clear hb
  go_wp2_with fail
  refine (d3.out _).mono ?_
  rintro e w3 ⟨rfl, hb⟩
  obtain ⟨hc3, hf3⟩ := bcell hb
  have hs3 : w.heap.size ≤ w3.heap.size := by have := hb.size; (try simp at this); omega
  have hz3_0 : w.heap.size < w3.heap.size := by have := hb.size; (try simp at this); omega
  have hz3_1 : w1.heap.size < w3.heap.size := by have := hb.size; (try simp at this); omega
  have hz3_2 : w2.heap.size < w3.heap.size := by have := hb.size; (try simp at this); omega
  have hB3 := Lib.hid (below_then (B := w.heap.size) (w := w) (by repeat (first | exact Below.refl _ _ | exact hB2.out | exact hB1.out | refine Below.alloc ?_ (by first | omega | (simp; done) | (simp; omega)) _ | refine Below.setCell ?_ (by first | omega | (simp; done) | (simp; omega)) _ | refine Below.drew ?_)) hb (by first | omega | (simp; done) | (simp; omega)))
  clear hb
  go_wp2_with fail
  have r1 : w3.cell? ⟨w.heap.size, 0, none⟩ = some (.complex .f64 0 0) := by go_simp
  have r2 : w3.cell? ⟨w.heap.size, 1, none⟩ = some (.bool false) := by go_simp
  have r3 : w3.cell? ⟨w.heap.size, 2, none⟩ = some (.complex .f64 0 0) := by go_simp
  have r4 : ∀ o, w3.frozen? ⟨w.heap.size, o, none⟩ = false := fun o => by go_simp
  clear hc1 hc2 hc3 hf1 hf2 hf3
  have hne : w.heap.size ≠ w3.heap.size := by omega
  go_region_held3 (fun w' => w'.cell? ⟨w3.heap.size, 0, none⟩ = some (.complex .f64 a b) ∧ w'.cell? ⟨w3.heap.size, 1, none⟩ = some (.bool f) ∧ w'.cell? ⟨w3.heap.size, 2, none⟩ = some (.complex .f64 c d))
    (first | go_keep | ((try go_split_ands); exact ⟨cell_kept hb (by assumption), cell_kept hb (by assumption), cell_kept hb (by assumption)⟩))
    (first | (go_at_call 30; refine (d4.out _).mono ?_; rintro e w4 ⟨rfl, hb⟩; have hq := bcell hb; have hc4 := hq.1; have hf4 := hq.2; clear hq; have hz4 : w.heap.size < w4.heap.size := by have := hb.size; (try simp at this); omega))
  have hB4 := Lib.hid (below_then (B := w.heap.size) (w := w) (Below.drew (Below.alloc hB3.out (by omega) _)) hb (by simp; omega))
  have q4 : Below w3.heap.size w3 w4 := below_then (Below.drew (Below.alloc (Below.refl _ _) (Nat.le_refl _) _)) hb (by simp)
  have u1 := cell_kept q4 r1
  have u2 := cell_kept q4 r2
  have u3 := cell_kept q4 r3
  clear hb q4
  go_wp2
  exact bodyPost_ret (v := .tuple #[isoV a b f c d, .bool true]) (by simp [results, Try.results31, go_sem, u1, u2, u3]) rfl ⟨rfl, below_set3 hB4.out⟩

set_option maxHeartbeats 400000 in
theorem lsize {n : Int} (h1 : -9223372036854775807 ≤ n) (h2 : n ≤ 9223372036854775807) (w : World) : Calls Try.prog 33 #[.int .i64 n] w fun e w' => e = .returned (.int .i64 n.natAbs) ∧ w = w' := by
  by_cases h : n < 0
  · have e : (n.natAbs : Int) = -n := by omega
    rw [e]
    go_enter Try.func33, Try.ntmps33
    go_wp2
    go_ret
    exact ⟨by simp, rfl⟩
  · have e : (n.natAbs : Int) = n := by omega
    rw [e]
    go_enter Try.func33, Try.ntmps33
    go_wp2
    go_ret
    exact ⟨rfl, rfl⟩

theorem below_drewN {B : Nat} {a w : World} (h : Below B a w) (n : Nat) : Below B a (w.drewN n) := ⟨h.os, h.tape, h.output, h.size, h.block⟩
theorem quiet_same_l {P : Program} {f : FuncId} {args : Array Value} {w : World} {n : Nat} {v : Value}
    (h : Calls P f args (w.drewN n) fun e w' => e = .returned v ∧ w.drewN n = w') : Calls P f args (w.drewN n) fun e w'' => e = .returned v ∧ ∃ m, w'' = w.drewN m :=
  h.mono fun _ _ ⟨he, hm⟩ => ⟨he, n, hm.symm⟩

theorem quiet_add_l {P : Program} {f : FuncId} {args : Array Value} {w : World} {a n : Nat} {v : Value}
    (h : Calls P f args (w.drewN (a + n)) fun e w' => e = .returned v ∧ w.drewN (a + n) = w') :
    Calls P f args (w.drewN (a + n)) fun e w'' => e = .returned v ∧ ∃ m, w'' = w.drewN (a + m) :=
  h.mono fun _ _ ⟨he, hm⟩ => ⟨he, n, hm.symm⟩

/-! ### IsoKeeps -/
theorem keeps_near {k : Nat} (hk : k < 4) (f : Bool) {x y u v : Int} (hx : x.natAbs < 1073741824) (hy : y.natAbs < 1073741824) (hu : u.natAbs < 1073741824) (hv : v.natAbs < 1073741824) :
    (dox k f x u v).natAbs ≤ 4294967296 ∧ (doy k f y u v).natAbs ≤ 4294967296 := by
  unfold dox doy fl
  rcases tv_cases hk with ⟨h1, h2⟩ | ⟨h1, h2⟩ | ⟨h1, h2⟩ | ⟨h1, h2⟩ <;> rw [h1, h2] <;> cases f <;> simp <;> omega

/-- Distances stay, or are exchanged. -/
theorem keeps_dist {k : Nat} (hk : k < 4) (f : Bool) (x y u v u' v' : Int) :
    ((dox k f x u v - dox k f x u' v').natAbs = (u - u').natAbs ∧ (doy k f y u v - doy k f y u' v').natAbs = (v - v').natAbs) ∨
    ((dox k f x u v - dox k f x u' v').natAbs = (v - v').natAbs ∧ (doy k f y u v - doy k f y u' v').natAbs = (u - u').natAbs) := by
  unfold dox doy fl
  rcases tv_cases hk with ⟨h1, h2⟩ | ⟨h1, h2⟩ | ⟨h1, h2⟩ | ⟨h1, h2⟩ <;> rw [h1, h2] <;> cases f <;> simp <;> omega
theorem keeps_same {k : Nat} (hk : k < 4) (f : Bool) (x y u v u' v' : Int) :
    (u == u' && v == v') = (dox k f x u v == dox k f x u' v' && doy k f y u v == doy k f y u' v') := by
  rw [Bool.eq_iff_iff]
  simp only [Bool.and_eq_true, beq_iff_eq]
  unfold dox doy fl
  rcases tv_cases hk with ⟨h1, h2⟩ | ⟨h1, h2⟩ | ⟨h1, h2⟩ | ⟨h1, h2⟩ <;> rw [h1, h2] <;> cases f <;> simp <;> omega

set_option maxHeartbeats 4000000 in
theorem isoKeeps_walk (k x y px py qx qy : Int) (w : World) :
    Calls Try.prog 6 #[.agg #[.int .i64 k, .int .i64 x, .int .i64 y], .agg #[.int .i64 px, .int .i64 py], .agg #[.int .i64 qx, .int .i64 qy]] w fun e w' => e = .returned (.bool true) ∧ Below w.heap.size w w' := by
  have hkk := kN_lt k
  have hx := rem30_lt x
  have hy := rem30_lt y
  have hpx := rem30_lt px
  have hpy := rem30_lt py
  have hqx := rem30_lt qx
  have hqy := rem30_lt qy
  have hK : kN k % 4 < 4 := by omega
  obtain ⟨n1, n2⟩ := keeps_near hK (kF k) (x := rem30 x) (y := rem30 y) (u := rem30 px) (v := rem30 py) (by omega) (by omega) (by omega) (by omega)
  obtain ⟨n3, n4⟩ := keeps_near hK (kF k) (x := rem30 x) (y := rem30 y) (u := rem30 qx) (v := rem30 qy) (by omega) (by omega) (by omega) (by omega)
  have m := isMap_F (k := kN k % 4) (x := rem30 x) (y := rem30 y) hK (by omega) (by omega)
  have c1 := fun W => lmade k x y W
  have c2 := fun W => lnear px py W
  have c3 := fun W => lnear qx qy W
  have c4 : ∀ W, Calls Try.prog 26 #[isoF (kN k % 4) (kF k) (rem30 x) (rem30 y), .agg #[.int .i64 (rem30 px), .int .i64 (rem30 py)]] W _ := fun W => at_yes (kF k) (rem30 px) (rem30 py) m ⟨by omega, by omega, by omega, by omega⟩ ⟨by omega, by omega, by omega, by omega⟩ W
  have c5 : ∀ W, Calls Try.prog 26 #[isoF (kN k % 4) (kF k) (rem30 x) (rem30 y), .agg #[.int .i64 (rem30 qx), .int .i64 (rem30 qy)]] W _ := fun W => at_yes (kF k) (rem30 qx) (rem30 qy) m ⟨by omega, by omega, by omega, by omega⟩ ⟨by omega, by omega, by omega, by omega⟩ W
  have D := Lib.hid (keeps_dist hK (kF k) (rem30 x) (rem30 y) (rem30 px) (rem30 py) (rem30 qx) (rem30 qy))
  have S := Lib.hid (keeps_same hK (kF k) (rem30 x) (rem30 y) (rem30 px) (rem30 py) (rem30 qx) (rem30 qy))
  clear m
  unfold isoF at *
  generalize dox (kN k % 4) (kF k) (rem30 x) (rem30 px) (rem30 py) = rx at *
  generalize doy (kN k % 4) (kF k) (rem30 y) (rem30 px) (rem30 py) = ry at *
  generalize dox (kN k % 4) (kF k) (rem30 x) (rem30 qx) (rem30 qy) = sx at *
  generalize doy (kN k % 4) (kF k) (rem30 y) (rem30 qx) (rem30 qy) = sy at *
  generalize F (tvx (kN k % 4)) = a at *
  generalize F (tvy (kN k % 4)) = b at *
  generalize F (rem30 x) = c at *
  generalize F (rem30 y) = d at *
  generalize kF k = f at *
  generalize rem30 px = p at *
  generalize rem30 py = q at *
  generalize rem30 qx = p' at *
  generalize rem30 qy = q' at *
  have d1 := Lib.hid c1
  have d2 := Lib.hid c2
  have d3 := Lib.hid c3
  have d4 := Lib.hid c4
  have d5 := Lib.hid c5
  clear c1 c2 c3 c4 c5 hkk hK hx hy
  obtain ⟨t, ht⟩ : ∃ t, (p == p' && q == q') = t := ⟨_, rfl⟩
  have he1 : ∀ W, (binOp .eql 30 (.agg #[.int .i64 p, .int .i64 q]) (.agg #[.int .i64 p', .int .i64 q'])).run Try.prog W = .ok (.bool t) W := fun W => by rw [run_eq_pt, ht]
  have he2 : ∀ W, (binOp .eql 30 (.agg #[.int .i64 rx, .int .i64 ry]) (.agg #[.int .i64 sx, .int .i64 sy])).run Try.prog W = .ok (.bool t) W := fun W => by rw [run_eq_pt, ← S.out, ht]
  clear ht S
  have b1 : -4294967296 ≤ rx ∧ rx ≤ 4294967296 := by omega
  have b2 : -4294967296 ≤ ry ∧ ry ≤ 4294967296 := by omega
  have b3 : -4294967296 ≤ sx ∧ sx ≤ 4294967296 := by omega
  have b4 : -4294967296 ≤ sy ∧ sy ≤ 4294967296 := by omega
  have W1 : IntKind.i64.wrap (p - p') = p - p' := IntWalk.i64_in _ (by omega)
  have W2 : IntKind.i64.wrap (q - q') = q - q' := IntWalk.i64_in _ (by omega)
  have W3 : IntKind.i64.wrap (rx - sx) = rx - sx := IntWalk.i64_in _ (by omega)
  have W4 : IntKind.i64.wrap (ry - sy) = ry - sy := IntWalk.i64_in _ (by omega)
  have z1 := fun W => lsize (n := p - p') (by omega) (by omega) W
  have z2 := fun W => lsize (n := q - q') (by omega) (by omega) W
  have z3 := fun W => lsize (n := rx - sx) (by omega) (by omega) W
  have z4 := fun W => lsize (n := ry - sy) (by omega) (by omega) W
  have y1 := Lib.hid z1
  have y2 := Lib.hid z2
  have y3 := Lib.hid z3
  have y4 := Lib.hid z4
  clear z1 z2 z3 z4 n1 n2 n3 n4 b1 b2 b3 b4 hpx hpy hqx hqy
  generalize (p - p').natAbs = e1 at *
  generalize (q - q').natAbs = e2 at *
  generalize (rx - sx).natAbs = e3 at *
  generalize (ry - sy).natAbs = e4 at *
  go_enter Try.func6, Try.ntmps6
  go_wp2_with fail
  refine (alive05 _).mono ?_
  rintro e w1 ⟨rfl, hb⟩
  obtain ⟨hc1, hf1⟩ := bcell hb
  have hs1 : w.heap.size ≤ w1.heap.size := by have := hb.size; (try simp at this); omega
  have hz1_0 : w.heap.size < w1.heap.size := by have := hb.size; (try simp at this); omega
  have hz1_1 : w.heap.size + 1 < w1.heap.size := by have := hb.size; (try simp at this); omega
  have hz1_2 : w.heap.size + 1 + 1 < w1.heap.size := by have := hb.size; (try simp at this); omega
  have hB1 := Lib.hid (below_then (B := w.heap.size) (w := w) (by repeat (first | exact Below.refl _ _ | refine Below.alloc ?_ (by first | omega | (simp; done) | (simp; omega)) _ | refine Below.setCell ?_ (by first | omega | (simp; done) | (simp; omega)) _ | refine Below.drew ?_)) hb (by first | omega | (simp; done) | (simp; omega)))
  clear hb
  go_wp2_with fail
  refine (d1.out _).mono ?_
  rintro e w2 ⟨rfl, hb⟩
  obtain ⟨hc2, hf2⟩ := bcell hb
  have hs2 : w.heap.size ≤ w2.heap.size := by have := hb.size; (try simp at this); omega
  have hz2_0 : w.heap.size < w2.heap.size := by have := hb.size; (try simp at this); omega
  have hz2_1 : w.heap.size + 1 < w2.heap.size := by have := hb.size; (try simp at this); omega
  have hz2_2 : w.heap.size + 1 + 1 < w2.heap.size := by have := hb.size; (try simp at this); omega
  have hB2 := Lib.hid (below_then (B := w.heap.size) (w := w) (by repeat (first | exact Below.refl _ _ | exact hB1.out | refine Below.alloc ?_ (by first | omega | (simp; done) | (simp; omega)) _ | refine Below.setCell ?_ (by first | omega | (simp; done) | (simp; omega)) _ | refine Below.drew ?_)) hb (by first | omega | (simp; done) | (simp; omega)))
  clear hb
  go_wp2_with fail
  refine (d2.out _).mono ?_
  rintro e w3 ⟨rfl, hb⟩
  obtain ⟨hc3, hf3⟩ := bcell hb
  have hs3 : w.heap.size ≤ w3.heap.size := by have := hb.size; (try simp at this); omega
  have hz3_0 : w.heap.size < w3.heap.size := by have := hb.size; (try simp at this); omega
  have hz3_1 : w.heap.size + 1 < w3.heap.size := by have := hb.size; (try simp at this); omega
  have hz3_2 : w.heap.size + 1 + 1 < w3.heap.size := by have := hb.size; (try simp at this); omega
  have hz3_3 : w2.heap.size < w3.heap.size := by have := hb.size; (try simp at this); omega
  have hB3 := Lib.hid (below_then (B := w.heap.size) (w := w) (by repeat (first | exact Below.refl _ _ | exact hB2.out | exact hB1.out | refine Below.alloc ?_ (by first | omega | (simp; done) | (simp; omega)) _ | refine Below.setCell ?_ (by first | omega | (simp; done) | (simp; omega)) _ | refine Below.drew ?_)) hb (by first | omega | (simp; done) | (simp; omega)))
  clear hb
  go_wp2_with fail
  refine (d3.out _).mono ?_
  rintro e w4 ⟨rfl, hb⟩
  obtain ⟨hc4, hf4⟩ := bcell hb
  have hs4 : w.heap.size ≤ w4.heap.size := by have := hb.size; (try simp at this); omega
  have hz4_0 : w.heap.size < w4.heap.size := by have := hb.size; (try simp at this); omega
  have hz4_1 : w.heap.size + 1 < w4.heap.size := by have := hb.size; (try simp at this); omega
  have hz4_2 : w.heap.size + 1 + 1 < w4.heap.size := by have := hb.size; (try simp at this); omega
  have hz4_3 : w2.heap.size < w4.heap.size := by have := hb.size; (try simp at this); omega
  have hz4_4 : w3.heap.size < w4.heap.size := by have := hb.size; (try simp at this); omega
  have hB4 := Lib.hid (below_then (B := w.heap.size) (w := w) (by repeat (first | exact Below.refl _ _ | exact hB3.out | exact hB2.out | exact hB1.out | refine Below.alloc ?_ (by first | omega | (simp; done) | (simp; omega)) _ | refine Below.setCell ?_ (by first | omega | (simp; done) | (simp; omega)) _ | refine Below.drew ?_)) hb (by first | omega | (simp; done) | (simp; omega)))
  clear hb
  go_wp2_with fail
  refine (d4.out _).mono ?_
  rintro e w5 ⟨rfl, hb⟩
  obtain ⟨hc5, hf5⟩ := bcell hb
  have hs5 : w.heap.size ≤ w5.heap.size := by have := hb.size; (try simp at this); omega
  have hz5_0 : w.heap.size < w5.heap.size := by have := hb.size; (try simp at this); omega
  have hz5_1 : w.heap.size + 1 < w5.heap.size := by have := hb.size; (try simp at this); omega
  have hz5_2 : w.heap.size + 1 + 1 < w5.heap.size := by have := hb.size; (try simp at this); omega
  have hz5_3 : w2.heap.size < w5.heap.size := by have := hb.size; (try simp at this); omega
  have hz5_4 : w3.heap.size < w5.heap.size := by have := hb.size; (try simp at this); omega
  have hz5_5 : w4.heap.size < w5.heap.size := by have := hb.size; (try simp at this); omega
  have hB5 := Lib.hid (below_then (B := w.heap.size) (w := w) (by repeat (first | exact Below.refl _ _ | exact hB4.out | exact hB3.out | exact hB2.out | exact hB1.out | refine Below.alloc ?_ (by first | omega | (simp; done) | (simp; omega)) _ | refine Below.setCell ?_ (by first | omega | (simp; done) | (simp; omega)) _ | refine Below.drew ?_)) hb (by first | omega | (simp; done) | (simp; omega)))
  clear hb
  go_wp2_with fail
  refine (d5.out _).mono ?_
  rintro e w6 ⟨rfl, hb⟩
  obtain ⟨hc6, hf6⟩ := bcell hb
  have hs6 : w.heap.size ≤ w6.heap.size := by have := hb.size; (try simp at this); omega
  have hz6_0 : w.heap.size < w6.heap.size := by have := hb.size; (try simp at this); omega
  have hz6_1 : w.heap.size + 1 < w6.heap.size := by have := hb.size; (try simp at this); omega
  have hz6_2 : w.heap.size + 1 + 1 < w6.heap.size := by have := hb.size; (try simp at this); omega
  have hz6_3 : w2.heap.size < w6.heap.size := by have := hb.size; (try simp at this); omega
  have hz6_4 : w3.heap.size < w6.heap.size := by have := hb.size; (try simp at this); omega
  have hz6_5 : w4.heap.size < w6.heap.size := by have := hb.size; (try simp at this); omega
  have hz6_6 : w5.heap.size < w6.heap.size := by have := hb.size; (try simp at this); omega
  have hB6 := Lib.hid (below_then (B := w.heap.size) (w := w) (by repeat (first | exact Below.refl _ _ | exact hB5.out | exact hB4.out | exact hB3.out | exact hB2.out | exact hB1.out | refine Below.alloc ?_ (by first | omega | (simp; done) | (simp; omega)) _ | refine Below.setCell ?_ (by first | omega | (simp; done) | (simp; omega)) _ | refine Below.drew ?_)) hb (by first | omega | (simp; done) | (simp; omega)))
  clear hb
  go_wp2_with fail
  have htt : (t != t) = false := by cases t <;> rfl
  go_quiet (fail)
  go_wp2_with fail
  go_quiet ((first | (go_at_call 33; exact quiet_add_l (y1.out _)) | (go_at_call 33; exact quiet_add_l (y2.out _))))
  go_wp2_with fail
  go_quiet ((first | (go_at_call 33; exact quiet_add_l (y3.out _)) | (go_at_call 33; exact quiet_add_l (y4.out _))))
  have hBE : ∀ n, Below w.heap.size w ((w6.alloc (.cells #[.int .i64 sx, .int .i64 sy] 30)).drewN n) := fun n => below_drewN (Below.alloc hB6.out (by omega) _) n
  have hBE' := Lib.hid hBE
  clear hBE
  by_cases g1 : ((e1 : Int) == (e3 : Int)) = true
  · by_cases g2 : ((e2 : Int) == (e4 : Int)) = true
    · go_wp2
      go_ret
      exact ⟨rfl, hBE'.out _⟩
    · have g2' : ((e2 : Int) == (e4 : Int)) = false := by simpa using g2
      have f1 : ((e1 : Int) == (e4 : Int)) = true := by have := D.out; simp at g1 g2 ⊢; omega
      have f2 : ((e2 : Int) == (e3 : Int)) = true := by have := D.out; simp at g1 g2 ⊢; omega
      clear g2
      go_wp2
      go_ret
      exact ⟨rfl, hBE'.out _⟩
  · have g1' : ((e1 : Int) == (e3 : Int)) = false := by simpa using g1
    have f1 : ((e1 : Int) == (e4 : Int)) = true := by have := D.out; simp at g1 ⊢; omega
    have f2 : ((e2 : Int) == (e3 : Int)) = true := by have := D.out; simp at g1 ⊢; omega
    clear g1
    go_wp2
    go_ret
    exact ⟨rfl, hBE'.out _⟩
end Go.Proofs.Ytjomgjlicfoehaa
