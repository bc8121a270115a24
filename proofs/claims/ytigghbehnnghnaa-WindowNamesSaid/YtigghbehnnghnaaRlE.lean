import Derived.Test.YtigghbehnnghnaaRlD
namespace Go.Proofs.Ytigghbehnnghnaa
open Go.RowKit Go.RowBits
set_option linter.unusedSimpArgs false
set_option linter.unusedVariables false

/-! ### Plain topologies: the plane and the torus, not turned -/
abbrev topoV (k W H : Int) : Value := .agg #[.int .u8 k, .int .i64 W, .int .i64 H, .int .u8 0, .int .i64 0]
set_option maxHeartbeats 2000000 in
theorem topoCheck81 {k W H : Int} (hk : k = 1 ∨ k = 2) (hW : 0 ≤ W ∧ W ≤ 65536) (hH : 0 ≤ H ∧ H ≤ 65536) (w : World) : Calls Try.prog 81 #[topoV k W H] w fun e w' => e = .returned (.int .i64 0) ∧ Below w.heap.size w w' := by
  obtain ⟨w1, w2⟩ := hW
  obtain ⟨h1, h2⟩ := hH
  rcases hk with rfl | rfl
  · go_enter Try.func81, Try.ntmps81
    go_wp2
    go_ret
    exact ⟨rfl, below_new _⟩
  · go_enter Try.func81, Try.ntmps81
    go_wp2
    go_ret
    exact ⟨rfl, below_new _⟩
set_option maxHeartbeats 2000000 in
theorem endless56 {k W H : Int} (hk : k = 1 ∨ k = 2) (hW : 0 ≤ W ∧ W ≤ 65536) (hH : 0 ≤ H ∧ H ≤ 65536) (w : World) : Calls Try.prog 56 #[topoV k W H] w fun e w' => e = .returned (.tuple #[.bool (W == 0), .bool (H == 0), .int .i64 0]) ∧ Below w.heap.size w w' := by
  have K1 := Lib.hid (fun W' => topoCheck81 (k := k) hk hW hH W')
  clear hk hW hH
  go_enter Try.func56, Try.ntmps56
  go_wp2_with fail
  refine (K1.out _).mono ?_
  rintro e w1 ⟨rfl, hb⟩
  obtain ⟨hc1, hf1⟩ := bcell hb
  have hz1 : w.heap.size < w1.heap.size := by have := hb.size; simp at this; omega
  have hB1 := Lib.hid (below_then (B := w.heap.size) (below_new _) hb (by simp))
  clear hb
  go_wp2
  go_quiet (fail)
  have hBn := below_drewN hB1.out nq
  go_wp2
  go_ret3
  exact ⟨rfl, hBn⟩
/-- A rule and a strip that may be. -/
structure Strip (h : Int) (born stay : Nat) (k W : Int) : Prop where
  hb1 : born < 65536
  hs1 : stay < 65536
  hE : lifeE h born stay = 0
  hh : h = 1 ∨ h = 2 ∨ h = 3
  hr : ruleOk h born stay
  h0 : born.testBit 0 = false
  hk : k = 1 ∨ k = 2
  hW : 1 ≤ W ∧ W ≤ 65536
set_option maxHeartbeats 2000000 in
theorem winCheck28 {h : Int} {born stay : Nat} {k W : Int} (S : Strip h born stay k W) (w : World) : Calls Try.prog 28 #[lifeRule h born stay, topoV k W 0] w fun e w' => e = .returned (.int .i64 0) ∧ Below w.heap.size w w' := by
  obtain ⟨hb1, hs1, hE, hh, hr, h0, hk, hW⟩ := S
  have K1 := Lib.hid (fun W' => check55 hb1 hs1 hE W')
  have K20 := fun W' => endless56 (k := k) (W := W) (H := 0) hk ⟨by omega, hW.2⟩ (by omega) W'
  have hw0 : (W == 0) = false := by simpa using (show ¬ W = 0 by omega)
  rw [hw0] at K20
  rw [show ((0 : Int) == 0) = true from rfl] at K20
  have K2 := Lib.hid K20
  have K3 := Lib.hid (fun W' => quiet57 (w := W') hb1 hs1 hE hh hr h0)
  clear hE hh hr h0 hk hW K20 hw0
  go_enter Try.func28, Try.ntmps28
  go_wp2_with fail
  refine (K1.out _).mono ?_
  rintro e w1 ⟨rfl, hb⟩
  obtain ⟨hc1, hf1⟩ := bcell hb
  have hz1 : w.heap.size + 1 < w1.heap.size := by have := hb.size; simp at this; omega
  have hz1' : w.heap.size < w1.heap.size := by omega
  have hB1 := Lib.hid (below_then (B := w.heap.size) ((below_new _).alloc (by simp) _) hb (by simp; omega))
  clear hb
  go_wp2_with fail
  refine (K2.out _).mono ?_
  rintro e w2 ⟨rfl, hb⟩
  obtain ⟨hc2, hf2⟩ := bcell hb
  have hz2 : w.heap.size + 1 < w2.heap.size := by have := hb.size; omega
  have hz2' : w.heap.size < w2.heap.size := by omega
  have hB2 := Lib.hid (below_then hB1.out hb hB1.out.size)
  clear hb
  go_wp2_with fail
  refine (K3.out _).mono ?_
  rintro e w3 ⟨rfl, hb⟩
  have hB3 := Lib.hid (below_then hB2.out hb hB2.out.size)
  clear hb
  go_wp2
  go_ret
  exact ⟨rfl, hB3.out⟩
set_option maxHeartbeats 2000000 in
theorem knows53 {h : Int} {born stay : Nat} {w : World} {v : Value} {l : List Nat} (hb1 : born < 65536) (hs1 : stay < 65536) (hE : lifeE h born stay = 0) (hl : l.length ≤ 65536) (hv : HasY w v l) (h2 : ∀ j, j < l.length → l.getD j 0 < 2) :
    Calls Try.prog 53 #[lifeRule h born stay, v] w fun e w' => e = .returned (.bool true) ∧ Below w.heap.size w w' := by
  have K1 := Lib.hid (fun W' => states48 hb1 hs1 hE W')
  have hv' := Lib.hid hv
  have h2' := Lib.hid h2
  obtain ⟨ad, cap, rfl, hcs⟩ := hv
  have hcs' := Lib.hid hcs
  clear hcs h2 hE
  go_enter Try.func53, Try.ntmps53
  go_wp2_with fail
  refine (K1.out _).mono ?_
  rintro e w1 ⟨rfl, hb⟩
  have hB1 := Lib.hid (below_then (B := w.heap.size) (below_new _) hb (by simp))
  clear hb
  go_wp2
  go_loop [16] (fun i => ∃ k : Nat, k ≤ l.length ∧ i = .int .i64 (k : Int)) (fun i => l.length - (intOf i).toNat)
  case atStart => exact ⟨0, by omega, by go_num⟩
  case round =>
    obtain ⟨k, hk, rfl⟩ := hrel
    by_cases hlt : k < l.length
    · obtain ⟨g, o, rfl, c1⟩ := hcs'.out k hlt
      have c2 := cell_kept hB1.out c1
      have hx := h2'.out k hlt
      clear c1
      generalize l.getD k 0 = x at *
      have hxI : (x : Int) < 2 := by omega
      go_wp2
      go_round
      case rel => exact ⟨k + 1, by omega, by go_num⟩
      case measure => simp [intOf]; omega
    · obtain rfl : k = l.length := by omega
      clear hlt
      go_wp2
      go_ret
      exact ⟨rfl, hB1.out⟩
theorem tmod_neg {a n : Int} (ha : a < 0) (hn : 1 ≤ n) : -n < a.tmod n ∧ a.tmod n ≤ 0 ∧ (a.tmod n < 0 → a.tmod n + n = a % n) ∧ (¬ a.tmod n < 0 → a.tmod n = a % n) := by
  have h1 : a.tmod n = -((-a) % n) := by rw [← Int.tmod_eq_emod_of_nonneg (by omega : 0 ≤ -a), Int.neg_tmod, Int.neg_neg]
  have h2 : 0 ≤ (-a) % n := Int.emod_nonneg _ (by omega)
  have h3 : (-a) % n < n := Int.emod_lt_of_pos _ (by omega)
  have h4 : 0 ≤ a % n := Int.emod_nonneg _ (by omega)
  have h5 : a % n < n := Int.emod_lt_of_pos _ (by omega)
  have h6 : n ∣ (a % n + (-a) % n) := by
    have e1 := Int.emod_add_mul_ediv a n
    have e2 := Int.emod_add_mul_ediv (-a) n
    exact ⟨-(a / n) - (-a) / n, by rw [Int.mul_sub, Int.mul_neg]; omega⟩
  obtain ⟨q, hq⟩ := h6
  rw [h1]
  have hq2 : q = 0 ∨ q = 1 := by
    have : 0 ≤ n * q := by omega
    have : n * q < n * 2 := by omega
    have a1 : 0 ≤ q := by
      rcases (show q < 0 ∨ 0 ≤ q by omega) with h | h
      · have := Int.mul_le_mul_of_nonneg_left (show q ≤ -1 by omega) (show 0 ≤ n by omega); omega
      · exact h
    have a2 : q < 2 := by
      rcases (show q < 2 ∨ 2 ≤ q by omega) with h | h
      · exact h
      · have := Int.mul_le_mul_of_nonneg_left h (show 0 ≤ n by omega); omega
    omega
  rcases hq2 with rfl | rfl
  · simp at hq; omega
  · simp at hq; omega
set_option maxHeartbeats 1000000 in
theorem mod78 {a n : Int} (ha : -65537 ≤ a ∧ a ≤ 65537) (hn : 1 ≤ n ∧ n ≤ 65536) (w : World) : Calls Try.prog 78 #[.int .i64 a, .int .i64 n] w fun e w' => e = .returned (.tuple #[.int .i64 (a % n), .bool true]) ∧ w' = w := by
  obtain ⟨a1, a2⟩ := ha
  obtain ⟨n1, n2⟩ := hn
  by_cases h0 : 0 ≤ a
  · have hm0 : 0 ≤ a % n := Int.emod_nonneg _ (by omega)
    have hm1 : a % n < n := Int.emod_lt_of_pos _ (by omega)
    go_enter Try.func78, Try.ntmps78
    go_wp2
    go_ret2
    exact ⟨rfl, rfl⟩
  · have ht := tmod_neg (a := a) (n := n) (by omega) (by omega)
    have ht' := Lib.hid ht
    have hw : IntKind.i64.wrap (a.tmod n) = a.tmod n := IntWalk.i64_in _ (by omega)
    by_cases hm : a.tmod n < 0
    · have hm2 := Lib.hid (ht.2.2.1 hm)
      go_enter Try.func78, Try.ntmps78
      go_wp2
      go_ret2
      exact ⟨rfl, rfl⟩
    · have hm2 := Lib.hid (ht.2.2.2 hm)
      go_enter Try.func78, Try.ntmps78
      go_wp2
      go_ret2
      exact ⟨by rw [← hm2.out]; rfl, rfl⟩
end Go.Proofs.Ytigghbehnnghnaa
