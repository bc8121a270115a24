import Derived.Test.YtcbhbojplcddkaaGreatDoorZGdB
namespace Go.Proofs.YtcbhbojplcddkaaGreatDoor
open Go.RowKit Go.RowBits
set_option linter.unusedSimpArgs false
set_option linter.unusedVariables false

/-! ### whole.Div, Mod; fold's helpers -/
theorem tdiv_ediv {a n : Int} (hn : 1 ≤ n) : a.tdiv n = if a.tmod n < 0 then a / n + 1 else a / n := by
  have h1 := Int.mul_tdiv_add_tmod a n
  have h2 := Int.mul_ediv_add_emod a n
  have h3 := Int.emod_nonneg a (show n ≠ 0 by omega)
  have h4 := Int.emod_lt_of_pos a (show 0 < n by omega)
  have h5 : a.tmod n < n ∧ -n < a.tmod n := ⟨Int.tmod_lt_of_pos a (by omega), Int.lt_tmod_of_pos a (by omega)⟩
  generalize a.tmod n = r at *
  generalize a % n = s at *
  generalize a.tdiv n = q at *
  generalize a / n = p at *
  have key : n * (q - p) = s - r := by rw [Int.mul_sub]; omega
  by_cases hr : r < 0
  · rw [if_pos hr]
    have a1 : 0 < s - r := by omega
    have a2 : s - r < 2 * n := by omega
    rw [← key] at a1 a2
    have b1 : 0 < q - p := by
      apply Classical.byContradiction
      intro h
      have : n * (q - p) ≤ n * 0 := Int.mul_le_mul_of_nonneg_left (by omega) (by omega)
      omega
    have b2 : q - p < 2 := by
      apply Classical.byContradiction
      intro h
      have : n * 2 ≤ n * (q - p) := Int.mul_le_mul_of_nonneg_left (by omega) (by omega)
      omega
    omega
  · rw [if_neg hr]
    have a1 : -n < s - r := by omega
    have a2 : s - r < n := by omega
    rw [← key] at a1 a2
    have b1 : -1 < q - p := by
      apply Classical.byContradiction
      intro h
      have : n * (q - p) ≤ n * (-1) := Int.mul_le_mul_of_nonneg_left (by omega) (by omega)
      omega
    have b2 : q - p < 1 := by
      apply Classical.byContradiction
      intro h
      have : n * 1 ≤ n * (q - p) := Int.mul_le_mul_of_nonneg_left (by omega) (by omega)
      omega
    omega
theorem tmod_emod {a n : Int} (hn : 1 ≤ n) : a % n = if a.tmod n < 0 then a.tmod n + n else a.tmod n := by
  have h1 := Int.mul_tdiv_add_tmod a n
  have h2 := Int.mul_ediv_add_emod a n
  have h0 := tdiv_ediv (a := a) hn
  by_cases hr : a.tmod n < 0
  · rw [if_pos hr] at h0 ⊢
    rw [h0, Int.mul_add] at h1
    omega
  · rw [if_neg hr] at h0 ⊢
    rw [h0] at h1
    omega
theorem tmod_bd {a n : Int} (hn : 1 ≤ n) : -n < a.tmod n ∧ a.tmod n < n := ⟨Int.lt_tmod_of_pos a (by omega), Int.tmod_lt_of_pos a (by omega)⟩
theorem ediv_bd {a n : Int} (hn : 1 ≤ n) (B : Int) (hB : -B ≤ a ∧ a ≤ B) (h0 : 0 ≤ B) : -B ≤ a / n ∧ a / n ≤ B := by
  constructor
  · rw [Int.le_ediv_iff_mul_le (by omega)]
    have : -B * n ≤ -B * 1 := Int.mul_le_mul_of_nonpos_left (by omega) (by omega)
    omega
  · have : a / n < B + 1 := by
      rw [Int.ediv_lt_iff_lt_mul (by omega)]
      have : (B + 1) * 1 ≤ (B + 1) * n := Int.mul_le_mul_of_nonneg_left hn (by omega)
      omega
    omega
set_option maxHeartbeats 2000000 in
theorem div79 {a n : Int} (hn : 1 ≤ n ∧ n ≤ 65536) (ha : -1099511627776 ≤ a ∧ a ≤ 1099511627776) (w : World) : Calls Tryz.prog 93 #[.int .i64 a, .int .i64 n] w fun e w' => e = .returned (.tuple #[.int .i64 (a / n), .bool true]) ∧ w' = w := by
  obtain ⟨n1, n2⟩ := hn
  have ht := tdiv_ediv (a := a) n1
  have hb := ediv_bd (a := a) n1 1099511627776 ha (by omega)
  have hm := tmod_bd (a := a) n1
  have hne : ¬ n = 0 := by omega
  obtain ⟨a1, a2⟩ := ha
  by_cases hr : a.tmod n < 0
  · rw [if_pos hr] at ht
    have hw : IntKind.i64.wrap (a.tdiv n) = a / n + 1 := by rw [ht]; exact IntWalk.i64_in _ (by omega)
    have hw0 : IntKind.i64.wrap (a.tmod n) = a.tmod n := IntWalk.i64_in _ (by omega)
    have hw2 : IntKind.i64.wrap (a / n + 1 - 1) = a / n := by rw [show a / n + 1 - 1 = a / n from by omega]; exact IntWalk.i64_in _ (by omega)
    have hw3 : a / n + 1 - 1 = a / n := by omega
    have ht' := Lib.hid ht
    go_enter Tryz.func93, Tryz.ntmps93
    go_wp2
    go_ret2
    exact ⟨rfl, rfl⟩
  · rw [if_neg hr] at ht
    have hw : IntKind.i64.wrap (a.tdiv n) = a / n := by rw [ht]; exact IntWalk.i64_in _ (by omega)
    have hw0 : IntKind.i64.wrap (a.tmod n) = a.tmod n := IntWalk.i64_in _ (by omega)
    go_enter Tryz.func93, Tryz.ntmps93
    go_wp2
    go_ret2
    exact ⟨rfl, rfl⟩
set_option maxHeartbeats 2000000 in
theorem mod80 {a n : Int} (hn : 1 ≤ n ∧ n ≤ 65536) (ha : -1099511627776 ≤ a ∧ a ≤ 1099511627776) (w : World) : Calls Tryz.prog 94 #[.int .i64 a, .int .i64 n] w fun e w' => e = .returned (.tuple #[.int .i64 (a % n), .bool true]) ∧ w' = w := by
  obtain ⟨n1, n2⟩ := hn
  have ht := tmod_emod (a := a) n1
  have hm := tmod_bd (a := a) n1
  have hne : ¬ n = 0 := by omega
  obtain ⟨a1, a2⟩ := ha
  have hw0 : IntKind.i64.wrap (a.tmod n) = a.tmod n := IntWalk.i64_in _ (by omega)
  have ht' := Lib.hid ht
  clear ht
  by_cases hr : a.tmod n < 0
  · have hw2 : IntKind.i64.wrap (a.tmod n + n) = a.tmod n + n := IntWalk.i64_in _ (by omega)
    go_enter Tryz.func94, Tryz.ntmps94
    go_wp2
    go_ret2
    exact ⟨by rw [ht'.out, if_pos hr]; rfl, rfl⟩
  · go_enter Tryz.func94, Tryz.ntmps94
    go_wp2
    go_ret2
    exact ⟨by rw [ht'.out, if_neg (by omega)]; rfl, rfl⟩
set_option maxHeartbeats 2000000 in
theorem cut77 {a n : Int} (hn : 1 ≤ n ∧ n ≤ 65536) (ha : -1099511627776 ≤ a ∧ a ≤ 1099511627776) (w : World) : Calls Tryz.prog 91 #[.int .i64 a, .int .i64 n] w fun e w' => e = .returned (.tuple #[.int .i64 (a / n), .int .i64 (a % n)]) ∧ w' = w := by
  have K1 := Lib.hid (div79 hn ha w)
  have K2 := Lib.hid (mod80 hn ha w)
  have hne : (n == 0) = false := by rw [beq_eq_false_iff_ne]; omega
  obtain ⟨q, hq⟩ : ∃ q, Hid (q = a / n) := ⟨_, rfl⟩
  obtain ⟨r, hr⟩ : ∃ r, Hid (r = a % n) := ⟨_, rfl⟩
  rw [← hq.out] at K1 ⊢
  rw [← hr.out] at K2 ⊢
  go_enter Tryz.func91, Tryz.ntmps91
  go_wp2_with fail
  refine (K1.out).mono ?_
  rintro e w' ⟨rfl, hw'⟩
  subst w'
  go_wp2_with fail
  refine (K2.out).mono ?_
  rintro e w' ⟨rfl, hw'⟩
  subst w'
  go_wp2
  go_ret2
  exact ⟨rfl, rfl⟩
set_option maxHeartbeats 2000000 in
theorem round78 {a n : Int} (hn : 1 ≤ n ∧ n ≤ 65536) (ha : -1099511627776 ≤ a ∧ a ≤ 1099511627776) (w : World) : Calls Tryz.prog 92 #[.int .i64 a, .int .i64 n] w fun e w' => e = .returned (.int .i64 (a % n)) ∧ w' = w := by
  have K2 := Lib.hid (mod80 hn ha w)
  obtain ⟨r, hr⟩ : ∃ r, Hid (r = a % n) := ⟨_, rfl⟩
  rw [← hr.out] at K2 ⊢
  go_enter Tryz.func92, Tryz.ntmps92
  go_wp2_with fail
  refine (K2.out).mono ?_
  rintro e w' ⟨rfl, hw'⟩
  subst w'
  go_wp2
  go_ret
  exact ⟨rfl, rfl⟩
def onB (a n : Int) : Bool := decide (0 ≤ a ∧ a < n)
set_option maxHeartbeats 2000000 in
theorem on76 {a n : Int} (hn : 1 ≤ n) (w : World) : Calls Tryz.prog 90 #[.int .i64 a, .int .i64 n] w fun e w' => e = .returned (.bool (onB a n)) ∧ w' = w := by
  have hne : (n == 0) = false := by rw [beq_eq_false_iff_ne]; omega
  by_cases h1 : 0 ≤ a
  · by_cases h2 : a < n
    · have hF : Hid (onB a n = true) := by show _ = _; unfold onB; exact decide_eq_true ⟨h1, h2⟩
      go_enter Tryz.func90, Tryz.ntmps90
      go_wp2
      go_ret
      exact ⟨by rw [hF.out]; rfl, rfl⟩
    · have hF : Hid (onB a n = false) := by show _ = _; unfold onB; exact decide_eq_false (by omega)
      go_enter Tryz.func90, Tryz.ntmps90
      go_wp2
      go_ret
      exact ⟨by rw [hF.out]; rfl, rfl⟩
  · have hF : Hid (onB a n = false) := by show _ = _; unfold onB; exact decide_eq_false (by omega)
    go_enter Tryz.func90, Tryz.ntmps90
    go_wp2
    go_ret
    exact ⟨by rw [hF.out]; rfl, rfl⟩
end Go.Proofs.YtcbhbojplcddkaaGreatDoor
namespace Go.Proofs.YtcbhbojplcddkaaGreatDoor
open Go.RowKit Go.RowBits
set_option linter.unusedSimpArgs false
set_option linter.unusedVariables false

/-! ### fold's ways (printed by mkGdD.py) -/
abbrev gridV (k W H tn sh a b : Int) : Value := .agg #[.int .u8 k, .int .i64 W, .int .i64 H, .int .u8 tn, .int .i64 sh, .int .i64 a, .int .i64 b]
abbrev wayV (p : Int × Int) (ok : Bool) : Value := .tuple #[.int .i64 p.1, .int .i64 p.2, .bool ok]
def WayPost (w : World) (p : Int × Int) (ok : Bool) (e : Ending) (w' : World) : Prop := e = .returned (wayV p ok) ∧ Below w.heap.size w w'
theorem WayPost.of {w w' : World} {p q : Int × Int} {ok : Bool} (hp : q = p) (hb : Below w.heap.size w w') : WayPost w p ok (.returned (wayV q ok)) w' := by subst hp; exact ⟨rfl, hb⟩
set_option maxRecDepth 20000 in
set_option maxHeartbeats 2000000 in
theorem flat71 {k W H tn sh a b u v : Int} (hW : 1 ≤ W) (hH : 1 ≤ H) (w : World) : Calls Tryz.prog 85 #[gridV k W H tn sh a b, .int .i64 u, .int .i64 v] w (WayPost w (u, v) (onB u W && onB v H)) := by
  have K1 := Lib.hid (fun w => on76 (a := u) hW w)
  have K2 := Lib.hid (fun w => on76 (a := v) hH w)
  generalize onB u W = p at *
  generalize onB v H = q at *
  cases p
  · go_enter Tryz.func85, Tryz.ntmps85
    go_wp2_with fail
    refine (K1.out _).mono ?_
    rintro e w' ⟨rfl, hw'⟩
    subst w'
    go_wp2
    exact bodyPost_ret (v := .tuple #[.int .i64 u, .int .i64 v, .bool false]) (by simp [results, Tryz.results85, go_sem]) rfl ⟨rfl, below_new _⟩
  · go_enter Tryz.func85, Tryz.ntmps85
    go_wp2_with fail
    refine (K1.out _).mono ?_
    rintro e w' ⟨rfl, hw'⟩
    subst w'
    go_wp2_with fail
    refine (K2.out _).mono ?_
    rintro e w' ⟨rfl, hw'⟩
    subst w'
    go_wp2
    exact bodyPost_ret (v := .tuple #[.int .i64 u, .int .i64 v, .bool q]) (by simp [results, Tryz.results85, go_sem]) rfl ⟨rfl, below_new _⟩
def torusF (W H tn sh u v : Int) : Int × Int := if tn = 1 then ((u - (v / H) * sh) % W, v % H) else if tn = 2 then (u % W, (v - (u / W) * sh) % H) else (u % W, v % H)
def kleinF (W H tn sh u v : Int) : Int × Int := if tn = 1 ∧ (v / H) % 2 = 1 then ((W - 1 - u + sh) % W, v % H) else if tn = 2 ∧ (u / W) % 2 = 1 then (u % W, (H - 1 - v + sh) % H) else (u % W, v % H)
def crossF (W H u v : Int) : Int × Int := (if (v / H) % 2 = 1 then W - 1 - u % W else u % W, if (u / W) % 2 = 1 then H - 1 - v % H else v % H)
theorem ring_q {u W : Int} (hW : 1 ≤ W) (hu : -1 ≤ u ∧ u ≤ W) : -1 ≤ u / W ∧ u / W ≤ 1 := by
  constructor
  · rw [Int.le_ediv_iff_mul_le (by omega)]; omega
  · have : u / W < 2 := by rw [Int.ediv_lt_iff_lt_mul (by omega)]; omega
    omega
theorem and_one {j : Int} (hj : -1 ≤ j ∧ j ≤ 1) : bits .and .i64 j 1 = j % 2 := by
  rcases (show j = -1 ∨ j = 0 ∨ j = 1 by omega) with rfl | rfl | rfl <;> decide
theorem mul_bd {j s : Int} (hj : -1 ≤ j ∧ j ≤ 1) (hs : -65536 ≤ s ∧ s ≤ 65536) : -65536 ≤ j * s ∧ j * s ≤ 65536 := by
  rcases (show j = -1 ∨ j = 0 ∨ j = 1 by omega) with rfl | rfl | rfl <;> omega
set_option maxRecDepth 20000 in
set_option maxHeartbeats 4000000 in
theorem torus72_0 {k W H sh a b u v : Int} (hW : 1 ≤ W ∧ W ≤ 65536) (hH : 1 ≤ H ∧ H ≤ 65536) (hu : -1 ≤ u ∧ u ≤ W) (hv : -1 ≤ v ∧ v ≤ H) (hs : -65536 ≤ sh ∧ sh ≤ 65536) (w : World) : Calls Tryz.prog 86 #[gridV k W H 0 sh a b, .int .i64 u, .int .i64 v] w (WayPost w (torusF W H 0 sh u v) true) := by
  obtain ⟨W1, W2⟩ := hW
  obtain ⟨H1, H2⟩ := hH
  have K1 := Lib.hid (fun w => cut77 (a := u) ⟨W1, W2⟩ (by omega) w)
  have K2 := Lib.hid (fun w => cut77 (a := v) ⟨H1, H2⟩ (by omega) w)
  have qi := ring_q W1 hu
  have qj := ring_q H1 hv
  have mi := Int.emod_nonneg u (show W ≠ 0 by omega)
  have mi2 := Int.emod_lt_of_pos u (show 0 < W by omega)
  have mj := Int.emod_nonneg v (show H ≠ 0 by omega)
  have mj2 := Int.emod_lt_of_pos v (show 0 < H by omega)
  obtain ⟨i, hi⟩ : ∃ i, Hid (i = u / W) := ⟨_, rfl⟩
  obtain ⟨j, hj⟩ : ∃ j, Hid (j = v / H) := ⟨_, rfl⟩
  obtain ⟨x, hx⟩ : ∃ x, Hid (x = u % W) := ⟨_, rfl⟩
  obtain ⟨y, hy⟩ : ∃ y, Hid (y = v % H) := ⟨_, rfl⟩
  rw [← hi.out] at qi
  rw [← hj.out] at qj
  rw [← hi.out, ← hx.out] at K1
  rw [← hj.out, ← hy.out] at K2
  rw [← hx.out] at mi mi2
  rw [← hy.out] at mj mj2
  have ai := and_one qi
  have aj := and_one qj
  obtain ⟨u1, u2⟩ := hu
  obtain ⟨v1, v2⟩ := hv
  obtain ⟨s1, s2⟩ := hs
  obtain ⟨i1, i2⟩ := qi
  obtain ⟨j1, j2⟩ := qj
  clear ai aj
  go_enter Tryz.func86, Tryz.ntmps86
  go_wp2_with fail
  refine (K1.out _).mono ?_
  rintro e w' ⟨rfl, hw'⟩
  subst w'
  go_wp2_with fail
  refine (K2.out _).mono ?_
  rintro e w' ⟨rfl, hw'⟩
  subst w'
  go_wp2
  exact bodyPost_ret (v := .tuple #[.int .i64 (x), .int .i64 (y), .bool true]) (by simp [results, Tryz.results86, go_sem]) rfl (WayPost.of (q := (x, y)) (by rw [hx.out, hy.out]; rfl) (below_new _))
set_option maxRecDepth 20000 in
set_option maxHeartbeats 4000000 in
theorem torus72_1 {k W H sh a b u v : Int} (hW : 1 ≤ W ∧ W ≤ 65536) (hH : 1 ≤ H ∧ H ≤ 65536) (hu : -1 ≤ u ∧ u ≤ W) (hv : -1 ≤ v ∧ v ≤ H) (hs : -65536 ≤ sh ∧ sh ≤ 65536) (w : World) : Calls Tryz.prog 86 #[gridV k W H 1 sh a b, .int .i64 u, .int .i64 v] w (WayPost w (torusF W H 1 sh u v) true) := by
  obtain ⟨W1, W2⟩ := hW
  obtain ⟨H1, H2⟩ := hH
  have K1 := Lib.hid (fun w => cut77 (a := u) ⟨W1, W2⟩ (by omega) w)
  have K2 := Lib.hid (fun w => cut77 (a := v) ⟨H1, H2⟩ (by omega) w)
  have qi := ring_q W1 hu
  have qj := ring_q H1 hv
  have mi := Int.emod_nonneg u (show W ≠ 0 by omega)
  have mi2 := Int.emod_lt_of_pos u (show 0 < W by omega)
  have mj := Int.emod_nonneg v (show H ≠ 0 by omega)
  have mj2 := Int.emod_lt_of_pos v (show 0 < H by omega)
  have mb := mul_bd qj hs
  have K3 := Lib.hid (fun w => round78 (a := u - (v / H) * sh) ⟨W1, W2⟩ (by omega) w)
  obtain ⟨i, hi⟩ : ∃ i, Hid (i = u / W) := ⟨_, rfl⟩
  obtain ⟨j, hj⟩ : ∃ j, Hid (j = v / H) := ⟨_, rfl⟩
  obtain ⟨x, hx⟩ : ∃ x, Hid (x = u % W) := ⟨_, rfl⟩
  obtain ⟨y, hy⟩ : ∃ y, Hid (y = v % H) := ⟨_, rfl⟩
  rw [← hi.out] at qi
  rw [← hj.out] at qj
  rw [← hi.out, ← hx.out] at K1
  rw [← hj.out, ← hy.out] at K2
  rw [← hx.out] at mi mi2
  rw [← hy.out] at mj mj2
  have ai := and_one qi
  have aj := and_one qj
  obtain ⟨u1, u2⟩ := hu
  obtain ⟨v1, v2⟩ := hv
  obtain ⟨s1, s2⟩ := hs
  obtain ⟨i1, i2⟩ := qi
  obtain ⟨j1, j2⟩ := qj
  rw [← hj.out] at K3 mb
  obtain ⟨z, hz⟩ : ∃ z, Hid (z = j * sh) := ⟨_, rfl⟩
  have hw1 : IntKind.i64.wrap (j * sh) = z := by rw [hz.out]; exact IntWalk.i64_in _ (by omega)
  rw [← hz.out] at K3 mb
  have hw2 : IntKind.i64.wrap (u - z) = u - z := IntWalk.i64_in _ (by omega)
  obtain ⟨r, hr⟩ : ∃ r, Hid (r = (u - z) % W) := ⟨_, rfl⟩
  rw [← hr.out] at K3
  clear ai aj
  go_enter Tryz.func86, Tryz.ntmps86
  go_wp2_with fail
  refine (K1.out _).mono ?_
  rintro e w' ⟨rfl, hw'⟩
  subst w'
  go_wp2_with fail
  refine (K2.out _).mono ?_
  rintro e w' ⟨rfl, hw'⟩
  subst w'
  go_wp2_with fail
  refine (K3.out _).mono ?_
  rintro e w' ⟨rfl, hw'⟩
  subst w'
  go_wp2
  exact bodyPost_ret (v := .tuple #[.int .i64 (r), .int .i64 (y), .bool true]) (by simp [results, Tryz.results86, go_sem]) rfl (WayPost.of (q := (r, y)) (by rw [hr.out, hz.out, hj.out, hy.out]; rfl) (below_new _))
set_option maxRecDepth 20000 in
set_option maxHeartbeats 4000000 in
theorem torus72_2 {k W H sh a b u v : Int} (hW : 1 ≤ W ∧ W ≤ 65536) (hH : 1 ≤ H ∧ H ≤ 65536) (hu : -1 ≤ u ∧ u ≤ W) (hv : -1 ≤ v ∧ v ≤ H) (hs : -65536 ≤ sh ∧ sh ≤ 65536) (w : World) : Calls Tryz.prog 86 #[gridV k W H 2 sh a b, .int .i64 u, .int .i64 v] w (WayPost w (torusF W H 2 sh u v) true) := by
  obtain ⟨W1, W2⟩ := hW
  obtain ⟨H1, H2⟩ := hH
  have K1 := Lib.hid (fun w => cut77 (a := u) ⟨W1, W2⟩ (by omega) w)
  have K2 := Lib.hid (fun w => cut77 (a := v) ⟨H1, H2⟩ (by omega) w)
  have qi := ring_q W1 hu
  have qj := ring_q H1 hv
  have mi := Int.emod_nonneg u (show W ≠ 0 by omega)
  have mi2 := Int.emod_lt_of_pos u (show 0 < W by omega)
  have mj := Int.emod_nonneg v (show H ≠ 0 by omega)
  have mj2 := Int.emod_lt_of_pos v (show 0 < H by omega)
  have mb := mul_bd qi hs
  have K3 := Lib.hid (fun w => round78 (a := v - (u / W) * sh) ⟨H1, H2⟩ (by omega) w)
  obtain ⟨i, hi⟩ : ∃ i, Hid (i = u / W) := ⟨_, rfl⟩
  obtain ⟨j, hj⟩ : ∃ j, Hid (j = v / H) := ⟨_, rfl⟩
  obtain ⟨x, hx⟩ : ∃ x, Hid (x = u % W) := ⟨_, rfl⟩
  obtain ⟨y, hy⟩ : ∃ y, Hid (y = v % H) := ⟨_, rfl⟩
  rw [← hi.out] at qi
  rw [← hj.out] at qj
  rw [← hi.out, ← hx.out] at K1
  rw [← hj.out, ← hy.out] at K2
  rw [← hx.out] at mi mi2
  rw [← hy.out] at mj mj2
  have ai := and_one qi
  have aj := and_one qj
  obtain ⟨u1, u2⟩ := hu
  obtain ⟨v1, v2⟩ := hv
  obtain ⟨s1, s2⟩ := hs
  obtain ⟨i1, i2⟩ := qi
  obtain ⟨j1, j2⟩ := qj
  rw [← hi.out] at K3 mb
  obtain ⟨z, hz⟩ : ∃ z, Hid (z = i * sh) := ⟨_, rfl⟩
  have hw1 : IntKind.i64.wrap (i * sh) = z := by rw [hz.out]; exact IntWalk.i64_in _ (by omega)
  rw [← hz.out] at K3 mb
  have hw2 : IntKind.i64.wrap (v - z) = v - z := IntWalk.i64_in _ (by omega)
  obtain ⟨r, hr⟩ : ∃ r, Hid (r = (v - z) % H) := ⟨_, rfl⟩
  rw [← hr.out] at K3
  clear ai aj
  go_enter Tryz.func86, Tryz.ntmps86
  go_wp2_with fail
  refine (K1.out _).mono ?_
  rintro e w' ⟨rfl, hw'⟩
  subst w'
  go_wp2_with fail
  refine (K2.out _).mono ?_
  rintro e w' ⟨rfl, hw'⟩
  subst w'
  go_wp2_with fail
  refine (K3.out _).mono ?_
  rintro e w' ⟨rfl, hw'⟩
  subst w'
  go_wp2
  exact bodyPost_ret (v := .tuple #[.int .i64 (x), .int .i64 (r), .bool true]) (by simp [results, Tryz.results86, go_sem]) rfl (WayPost.of (q := (x, r)) (by rw [hr.out, hz.out, hi.out, hx.out]; rfl) (below_new _))
set_option maxRecDepth 20000 in
set_option maxHeartbeats 4000000 in
theorem klein73_11 {k W H sh a b u v : Int} (hW : 1 ≤ W ∧ W ≤ 65536) (hH : 1 ≤ H ∧ H ≤ 65536) (hu : -1 ≤ u ∧ u ≤ W) (hv : -1 ≤ v ∧ v ≤ H) (hs : -65536 ≤ sh ∧ sh ≤ 65536) (hq : (v / H) % 2 = 1) (w : World) : Calls Tryz.prog 87 #[gridV k W H 1 sh a b, .int .i64 u, .int .i64 v] w (WayPost w (kleinF W H 1 sh u v) true) := by
  obtain ⟨W1, W2⟩ := hW
  obtain ⟨H1, H2⟩ := hH
  have K1 := Lib.hid (fun w => cut77 (a := u) ⟨W1, W2⟩ (by omega) w)
  have K2 := Lib.hid (fun w => cut77 (a := v) ⟨H1, H2⟩ (by omega) w)
  have qi := ring_q W1 hu
  have qj := ring_q H1 hv
  have mi := Int.emod_nonneg u (show W ≠ 0 by omega)
  have mi2 := Int.emod_lt_of_pos u (show 0 < W by omega)
  have mj := Int.emod_nonneg v (show H ≠ 0 by omega)
  have mj2 := Int.emod_lt_of_pos v (show 0 < H by omega)
  have K3 := Lib.hid (fun w => round78 (a := W - 1 - u + sh) ⟨W1, W2⟩ (by omega) w)
  have hF : Hid (kleinF W H 1 sh u v = ((W - 1 - u + sh) % W, v % H)) := by show _ = _; unfold kleinF; simp [hq]
  obtain ⟨i, hi⟩ : ∃ i, Hid (i = u / W) := ⟨_, rfl⟩
  obtain ⟨j, hj⟩ : ∃ j, Hid (j = v / H) := ⟨_, rfl⟩
  obtain ⟨x, hx⟩ : ∃ x, Hid (x = u % W) := ⟨_, rfl⟩
  obtain ⟨y, hy⟩ : ∃ y, Hid (y = v % H) := ⟨_, rfl⟩
  rw [← hi.out] at qi
  rw [← hj.out] at qj
  rw [← hi.out, ← hx.out] at K1
  rw [← hj.out, ← hy.out] at K2
  rw [← hx.out] at mi mi2
  rw [← hy.out] at mj mj2
  have ai := and_one qi
  have aj := and_one qj
  obtain ⟨u1, u2⟩ := hu
  obtain ⟨v1, v2⟩ := hv
  obtain ⟨s1, s2⟩ := hs
  obtain ⟨i1, i2⟩ := qi
  obtain ⟨j1, j2⟩ := qj
  obtain ⟨r, hr⟩ : ∃ r, Hid (r = (W - 1 - u + sh) % W) := ⟨_, rfl⟩
  rw [← hr.out] at K3
  rw [← hj.out] at hq
  rw [hq] at aj
  clear hq ai
  go_enter Tryz.func87, Tryz.ntmps87
  go_wp2_with fail
  refine (K1.out _).mono ?_
  rintro e w' ⟨rfl, hw'⟩
  subst w'
  go_wp2_with fail
  refine (K2.out _).mono ?_
  rintro e w' ⟨rfl, hw'⟩
  subst w'
  go_wp2_with fail
  refine (K3.out _).mono ?_
  rintro e w' ⟨rfl, hw'⟩
  subst w'
  go_wp2
  exact bodyPost_ret (v := .tuple #[.int .i64 (r), .int .i64 (y), .bool true]) (by simp [results, Tryz.results87, go_sem]) rfl (WayPost.of (q := (r, y)) (by rw [hF.out, hr.out, hy.out]) (below_new _))
set_option maxRecDepth 20000 in
set_option maxHeartbeats 4000000 in
theorem klein73_10 {k W H sh a b u v : Int} (hW : 1 ≤ W ∧ W ≤ 65536) (hH : 1 ≤ H ∧ H ≤ 65536) (hu : -1 ≤ u ∧ u ≤ W) (hv : -1 ≤ v ∧ v ≤ H) (hs : -65536 ≤ sh ∧ sh ≤ 65536) (hq : (v / H) % 2 = 0) (w : World) : Calls Tryz.prog 87 #[gridV k W H 1 sh a b, .int .i64 u, .int .i64 v] w (WayPost w (kleinF W H 1 sh u v) true) := by
  obtain ⟨W1, W2⟩ := hW
  obtain ⟨H1, H2⟩ := hH
  have K1 := Lib.hid (fun w => cut77 (a := u) ⟨W1, W2⟩ (by omega) w)
  have K2 := Lib.hid (fun w => cut77 (a := v) ⟨H1, H2⟩ (by omega) w)
  have qi := ring_q W1 hu
  have qj := ring_q H1 hv
  have mi := Int.emod_nonneg u (show W ≠ 0 by omega)
  have mi2 := Int.emod_lt_of_pos u (show 0 < W by omega)
  have mj := Int.emod_nonneg v (show H ≠ 0 by omega)
  have mj2 := Int.emod_lt_of_pos v (show 0 < H by omega)
  have hF : Hid (kleinF W H 1 sh u v = (u % W, v % H)) := by show _ = _; unfold kleinF; simp [hq]
  obtain ⟨i, hi⟩ : ∃ i, Hid (i = u / W) := ⟨_, rfl⟩
  obtain ⟨j, hj⟩ : ∃ j, Hid (j = v / H) := ⟨_, rfl⟩
  obtain ⟨x, hx⟩ : ∃ x, Hid (x = u % W) := ⟨_, rfl⟩
  obtain ⟨y, hy⟩ : ∃ y, Hid (y = v % H) := ⟨_, rfl⟩
  rw [← hi.out] at qi
  rw [← hj.out] at qj
  rw [← hi.out, ← hx.out] at K1
  rw [← hj.out, ← hy.out] at K2
  rw [← hx.out] at mi mi2
  rw [← hy.out] at mj mj2
  have ai := and_one qi
  have aj := and_one qj
  obtain ⟨u1, u2⟩ := hu
  obtain ⟨v1, v2⟩ := hv
  obtain ⟨s1, s2⟩ := hs
  obtain ⟨i1, i2⟩ := qi
  obtain ⟨j1, j2⟩ := qj
  rw [← hj.out] at hq
  rw [hq] at aj
  clear hq ai
  go_enter Tryz.func87, Tryz.ntmps87
  go_wp2_with fail
  refine (K1.out _).mono ?_
  rintro e w' ⟨rfl, hw'⟩
  subst w'
  go_wp2_with fail
  refine (K2.out _).mono ?_
  rintro e w' ⟨rfl, hw'⟩
  subst w'
  go_wp2
  exact bodyPost_ret (v := .tuple #[.int .i64 (x), .int .i64 (y), .bool true]) (by simp [results, Tryz.results87, go_sem]) rfl (WayPost.of (q := (x, y)) (by rw [hF.out, hx.out, hy.out]) (below_new _))
set_option maxRecDepth 20000 in
set_option maxHeartbeats 4000000 in
theorem klein73_21 {k W H sh a b u v : Int} (hW : 1 ≤ W ∧ W ≤ 65536) (hH : 1 ≤ H ∧ H ≤ 65536) (hu : -1 ≤ u ∧ u ≤ W) (hv : -1 ≤ v ∧ v ≤ H) (hs : -65536 ≤ sh ∧ sh ≤ 65536) (hq : (u / W) % 2 = 1) (w : World) : Calls Tryz.prog 87 #[gridV k W H 2 sh a b, .int .i64 u, .int .i64 v] w (WayPost w (kleinF W H 2 sh u v) true) := by
  obtain ⟨W1, W2⟩ := hW
  obtain ⟨H1, H2⟩ := hH
  have K1 := Lib.hid (fun w => cut77 (a := u) ⟨W1, W2⟩ (by omega) w)
  have K2 := Lib.hid (fun w => cut77 (a := v) ⟨H1, H2⟩ (by omega) w)
  have qi := ring_q W1 hu
  have qj := ring_q H1 hv
  have mi := Int.emod_nonneg u (show W ≠ 0 by omega)
  have mi2 := Int.emod_lt_of_pos u (show 0 < W by omega)
  have mj := Int.emod_nonneg v (show H ≠ 0 by omega)
  have mj2 := Int.emod_lt_of_pos v (show 0 < H by omega)
  have K3 := Lib.hid (fun w => round78 (a := H - 1 - v + sh) ⟨H1, H2⟩ (by omega) w)
  have hF : Hid (kleinF W H 2 sh u v = (u % W, (H - 1 - v + sh) % H)) := by show _ = _; unfold kleinF; simp [hq]
  obtain ⟨i, hi⟩ : ∃ i, Hid (i = u / W) := ⟨_, rfl⟩
  obtain ⟨j, hj⟩ : ∃ j, Hid (j = v / H) := ⟨_, rfl⟩
  obtain ⟨x, hx⟩ : ∃ x, Hid (x = u % W) := ⟨_, rfl⟩
  obtain ⟨y, hy⟩ : ∃ y, Hid (y = v % H) := ⟨_, rfl⟩
  rw [← hi.out] at qi
  rw [← hj.out] at qj
  rw [← hi.out, ← hx.out] at K1
  rw [← hj.out, ← hy.out] at K2
  rw [← hx.out] at mi mi2
  rw [← hy.out] at mj mj2
  have ai := and_one qi
  have aj := and_one qj
  obtain ⟨u1, u2⟩ := hu
  obtain ⟨v1, v2⟩ := hv
  obtain ⟨s1, s2⟩ := hs
  obtain ⟨i1, i2⟩ := qi
  obtain ⟨j1, j2⟩ := qj
  obtain ⟨r, hr⟩ : ∃ r, Hid (r = (H - 1 - v + sh) % H) := ⟨_, rfl⟩
  rw [← hr.out] at K3
  rw [← hi.out] at hq
  rw [hq] at ai
  clear hq aj
  go_enter Tryz.func87, Tryz.ntmps87
  go_wp2_with fail
  refine (K1.out _).mono ?_
  rintro e w' ⟨rfl, hw'⟩
  subst w'
  go_wp2_with fail
  refine (K2.out _).mono ?_
  rintro e w' ⟨rfl, hw'⟩
  subst w'
  go_wp2_with fail
  refine (K3.out _).mono ?_
  rintro e w' ⟨rfl, hw'⟩
  subst w'
  go_wp2
  exact bodyPost_ret (v := .tuple #[.int .i64 (x), .int .i64 (r), .bool true]) (by simp [results, Tryz.results87, go_sem]) rfl (WayPost.of (q := (x, r)) (by rw [hF.out, hr.out, hx.out]) (below_new _))
set_option maxRecDepth 20000 in
set_option maxHeartbeats 4000000 in
theorem klein73_20 {k W H sh a b u v : Int} (hW : 1 ≤ W ∧ W ≤ 65536) (hH : 1 ≤ H ∧ H ≤ 65536) (hu : -1 ≤ u ∧ u ≤ W) (hv : -1 ≤ v ∧ v ≤ H) (hs : -65536 ≤ sh ∧ sh ≤ 65536) (hq : (u / W) % 2 = 0) (w : World) : Calls Tryz.prog 87 #[gridV k W H 2 sh a b, .int .i64 u, .int .i64 v] w (WayPost w (kleinF W H 2 sh u v) true) := by
  obtain ⟨W1, W2⟩ := hW
  obtain ⟨H1, H2⟩ := hH
  have K1 := Lib.hid (fun w => cut77 (a := u) ⟨W1, W2⟩ (by omega) w)
  have K2 := Lib.hid (fun w => cut77 (a := v) ⟨H1, H2⟩ (by omega) w)
  have qi := ring_q W1 hu
  have qj := ring_q H1 hv
  have mi := Int.emod_nonneg u (show W ≠ 0 by omega)
  have mi2 := Int.emod_lt_of_pos u (show 0 < W by omega)
  have mj := Int.emod_nonneg v (show H ≠ 0 by omega)
  have mj2 := Int.emod_lt_of_pos v (show 0 < H by omega)
  have hF : Hid (kleinF W H 2 sh u v = (u % W, v % H)) := by show _ = _; unfold kleinF; simp [hq]
  obtain ⟨i, hi⟩ : ∃ i, Hid (i = u / W) := ⟨_, rfl⟩
  obtain ⟨j, hj⟩ : ∃ j, Hid (j = v / H) := ⟨_, rfl⟩
  obtain ⟨x, hx⟩ : ∃ x, Hid (x = u % W) := ⟨_, rfl⟩
  obtain ⟨y, hy⟩ : ∃ y, Hid (y = v % H) := ⟨_, rfl⟩
  rw [← hi.out] at qi
  rw [← hj.out] at qj
  rw [← hi.out, ← hx.out] at K1
  rw [← hj.out, ← hy.out] at K2
  rw [← hx.out] at mi mi2
  rw [← hy.out] at mj mj2
  have ai := and_one qi
  have aj := and_one qj
  obtain ⟨u1, u2⟩ := hu
  obtain ⟨v1, v2⟩ := hv
  obtain ⟨s1, s2⟩ := hs
  obtain ⟨i1, i2⟩ := qi
  obtain ⟨j1, j2⟩ := qj
  rw [← hi.out] at hq
  rw [hq] at ai
  clear hq aj
  go_enter Tryz.func87, Tryz.ntmps87
  go_wp2_with fail
  refine (K1.out _).mono ?_
  rintro e w' ⟨rfl, hw'⟩
  subst w'
  go_wp2_with fail
  refine (K2.out _).mono ?_
  rintro e w' ⟨rfl, hw'⟩
  subst w'
  go_wp2
  exact bodyPost_ret (v := .tuple #[.int .i64 (x), .int .i64 (y), .bool true]) (by simp [results, Tryz.results87, go_sem]) rfl (WayPost.of (q := (x, y)) (by rw [hF.out, hx.out, hy.out]) (below_new _))
set_option maxRecDepth 20000 in
set_option maxHeartbeats 4000000 in
theorem cross74_11 {k W H sh a b u v : Int} (hW : 1 ≤ W ∧ W ≤ 65536) (hH : 1 ≤ H ∧ H ≤ 65536) (hu : -1 ≤ u ∧ u ≤ W) (hv : -1 ≤ v ∧ v ≤ H) (hs : -65536 ≤ sh ∧ sh ≤ 65536) (hq : (v / H) % 2 = 1) (hp : (u / W) % 2 = 1) (w : World) {tn : Int} : Calls Tryz.prog 88 #[gridV k W H tn sh a b, .int .i64 u, .int .i64 v] w (WayPost w (crossF W H u v) true) := by
  obtain ⟨W1, W2⟩ := hW
  obtain ⟨H1, H2⟩ := hH
  have K1 := Lib.hid (fun w => cut77 (a := u) ⟨W1, W2⟩ (by omega) w)
  have K2 := Lib.hid (fun w => cut77 (a := v) ⟨H1, H2⟩ (by omega) w)
  have qi := ring_q W1 hu
  have qj := ring_q H1 hv
  have mi := Int.emod_nonneg u (show W ≠ 0 by omega)
  have mi2 := Int.emod_lt_of_pos u (show 0 < W by omega)
  have mj := Int.emod_nonneg v (show H ≠ 0 by omega)
  have mj2 := Int.emod_lt_of_pos v (show 0 < H by omega)
  have hF : Hid (crossF W H u v = (W - 1 - u % W, H - 1 - v % H)) := by show _ = _; unfold crossF; simp [hq, hp]
  obtain ⟨i, hi⟩ : ∃ i, Hid (i = u / W) := ⟨_, rfl⟩
  obtain ⟨j, hj⟩ : ∃ j, Hid (j = v / H) := ⟨_, rfl⟩
  obtain ⟨x, hx⟩ : ∃ x, Hid (x = u % W) := ⟨_, rfl⟩
  obtain ⟨y, hy⟩ : ∃ y, Hid (y = v % H) := ⟨_, rfl⟩
  rw [← hi.out] at qi
  rw [← hj.out] at qj
  rw [← hi.out, ← hx.out] at K1
  rw [← hj.out, ← hy.out] at K2
  rw [← hx.out] at mi mi2
  rw [← hy.out] at mj mj2
  have ai := and_one qi
  have aj := and_one qj
  obtain ⟨u1, u2⟩ := hu
  obtain ⟨v1, v2⟩ := hv
  obtain ⟨s1, s2⟩ := hs
  obtain ⟨i1, i2⟩ := qi
  obtain ⟨j1, j2⟩ := qj
  rw [← hj.out] at hq
  rw [hq] at aj
  rw [← hi.out] at hp
  rw [hp] at ai
  clear hq hp
  go_enter Tryz.func88, Tryz.ntmps88
  go_wp2_with fail
  refine (K1.out _).mono ?_
  rintro e w' ⟨rfl, hw'⟩
  subst w'
  go_wp2_with fail
  refine (K2.out _).mono ?_
  rintro e w' ⟨rfl, hw'⟩
  subst w'
  go_wp2
  exact bodyPost_ret (v := .tuple #[.int .i64 (W - 1 - x), .int .i64 (H - 1 - y), .bool true]) (by simp [results, Tryz.results88, go_sem]) rfl (WayPost.of (q := (W - 1 - x, H - 1 - y)) (by rw [hF.out, hx.out, hy.out]) (below_new _))
set_option maxRecDepth 20000 in
set_option maxHeartbeats 4000000 in
theorem cross74_10 {k W H sh a b u v : Int} (hW : 1 ≤ W ∧ W ≤ 65536) (hH : 1 ≤ H ∧ H ≤ 65536) (hu : -1 ≤ u ∧ u ≤ W) (hv : -1 ≤ v ∧ v ≤ H) (hs : -65536 ≤ sh ∧ sh ≤ 65536) (hq : (v / H) % 2 = 1) (hp : (u / W) % 2 = 0) (w : World) {tn : Int} : Calls Tryz.prog 88 #[gridV k W H tn sh a b, .int .i64 u, .int .i64 v] w (WayPost w (crossF W H u v) true) := by
  obtain ⟨W1, W2⟩ := hW
  obtain ⟨H1, H2⟩ := hH
  have K1 := Lib.hid (fun w => cut77 (a := u) ⟨W1, W2⟩ (by omega) w)
  have K2 := Lib.hid (fun w => cut77 (a := v) ⟨H1, H2⟩ (by omega) w)
  have qi := ring_q W1 hu
  have qj := ring_q H1 hv
  have mi := Int.emod_nonneg u (show W ≠ 0 by omega)
  have mi2 := Int.emod_lt_of_pos u (show 0 < W by omega)
  have mj := Int.emod_nonneg v (show H ≠ 0 by omega)
  have mj2 := Int.emod_lt_of_pos v (show 0 < H by omega)
  have hF : Hid (crossF W H u v = (W - 1 - u % W, v % H)) := by show _ = _; unfold crossF; simp [hq, hp]
  obtain ⟨i, hi⟩ : ∃ i, Hid (i = u / W) := ⟨_, rfl⟩
  obtain ⟨j, hj⟩ : ∃ j, Hid (j = v / H) := ⟨_, rfl⟩
  obtain ⟨x, hx⟩ : ∃ x, Hid (x = u % W) := ⟨_, rfl⟩
  obtain ⟨y, hy⟩ : ∃ y, Hid (y = v % H) := ⟨_, rfl⟩
  rw [← hi.out] at qi
  rw [← hj.out] at qj
  rw [← hi.out, ← hx.out] at K1
  rw [← hj.out, ← hy.out] at K2
  rw [← hx.out] at mi mi2
  rw [← hy.out] at mj mj2
  have ai := and_one qi
  have aj := and_one qj
  obtain ⟨u1, u2⟩ := hu
  obtain ⟨v1, v2⟩ := hv
  obtain ⟨s1, s2⟩ := hs
  obtain ⟨i1, i2⟩ := qi
  obtain ⟨j1, j2⟩ := qj
  rw [← hj.out] at hq
  rw [hq] at aj
  rw [← hi.out] at hp
  rw [hp] at ai
  clear hq hp
  go_enter Tryz.func88, Tryz.ntmps88
  go_wp2_with fail
  refine (K1.out _).mono ?_
  rintro e w' ⟨rfl, hw'⟩
  subst w'
  go_wp2_with fail
  refine (K2.out _).mono ?_
  rintro e w' ⟨rfl, hw'⟩
  subst w'
  go_wp2
  exact bodyPost_ret (v := .tuple #[.int .i64 (W - 1 - x), .int .i64 (y), .bool true]) (by simp [results, Tryz.results88, go_sem]) rfl (WayPost.of (q := (W - 1 - x, y)) (by rw [hF.out, hx.out, hy.out]) (below_new _))
set_option maxRecDepth 20000 in
set_option maxHeartbeats 4000000 in
theorem cross74_01 {k W H sh a b u v : Int} (hW : 1 ≤ W ∧ W ≤ 65536) (hH : 1 ≤ H ∧ H ≤ 65536) (hu : -1 ≤ u ∧ u ≤ W) (hv : -1 ≤ v ∧ v ≤ H) (hs : -65536 ≤ sh ∧ sh ≤ 65536) (hq : (v / H) % 2 = 0) (hp : (u / W) % 2 = 1) (w : World) {tn : Int} : Calls Tryz.prog 88 #[gridV k W H tn sh a b, .int .i64 u, .int .i64 v] w (WayPost w (crossF W H u v) true) := by
  obtain ⟨W1, W2⟩ := hW
  obtain ⟨H1, H2⟩ := hH
  have K1 := Lib.hid (fun w => cut77 (a := u) ⟨W1, W2⟩ (by omega) w)
  have K2 := Lib.hid (fun w => cut77 (a := v) ⟨H1, H2⟩ (by omega) w)
  have qi := ring_q W1 hu
  have qj := ring_q H1 hv
  have mi := Int.emod_nonneg u (show W ≠ 0 by omega)
  have mi2 := Int.emod_lt_of_pos u (show 0 < W by omega)
  have mj := Int.emod_nonneg v (show H ≠ 0 by omega)
  have mj2 := Int.emod_lt_of_pos v (show 0 < H by omega)
  have hF : Hid (crossF W H u v = (u % W, H - 1 - v % H)) := by show _ = _; unfold crossF; simp [hq, hp]
  obtain ⟨i, hi⟩ : ∃ i, Hid (i = u / W) := ⟨_, rfl⟩
  obtain ⟨j, hj⟩ : ∃ j, Hid (j = v / H) := ⟨_, rfl⟩
  obtain ⟨x, hx⟩ : ∃ x, Hid (x = u % W) := ⟨_, rfl⟩
  obtain ⟨y, hy⟩ : ∃ y, Hid (y = v % H) := ⟨_, rfl⟩
  rw [← hi.out] at qi
  rw [← hj.out] at qj
  rw [← hi.out, ← hx.out] at K1
  rw [← hj.out, ← hy.out] at K2
  rw [← hx.out] at mi mi2
  rw [← hy.out] at mj mj2
  have ai := and_one qi
  have aj := and_one qj
  obtain ⟨u1, u2⟩ := hu
  obtain ⟨v1, v2⟩ := hv
  obtain ⟨s1, s2⟩ := hs
  obtain ⟨i1, i2⟩ := qi
  obtain ⟨j1, j2⟩ := qj
  rw [← hj.out] at hq
  rw [hq] at aj
  rw [← hi.out] at hp
  rw [hp] at ai
  clear hq hp
  go_enter Tryz.func88, Tryz.ntmps88
  go_wp2_with fail
  refine (K1.out _).mono ?_
  rintro e w' ⟨rfl, hw'⟩
  subst w'
  go_wp2_with fail
  refine (K2.out _).mono ?_
  rintro e w' ⟨rfl, hw'⟩
  subst w'
  go_wp2
  exact bodyPost_ret (v := .tuple #[.int .i64 (x), .int .i64 (H - 1 - y), .bool true]) (by simp [results, Tryz.results88, go_sem]) rfl (WayPost.of (q := (x, H - 1 - y)) (by rw [hF.out, hx.out, hy.out]) (below_new _))
set_option maxRecDepth 20000 in
set_option maxHeartbeats 4000000 in
theorem cross74_00 {k W H sh a b u v : Int} (hW : 1 ≤ W ∧ W ≤ 65536) (hH : 1 ≤ H ∧ H ≤ 65536) (hu : -1 ≤ u ∧ u ≤ W) (hv : -1 ≤ v ∧ v ≤ H) (hs : -65536 ≤ sh ∧ sh ≤ 65536) (hq : (v / H) % 2 = 0) (hp : (u / W) % 2 = 0) (w : World) {tn : Int} : Calls Tryz.prog 88 #[gridV k W H tn sh a b, .int .i64 u, .int .i64 v] w (WayPost w (crossF W H u v) true) := by
  obtain ⟨W1, W2⟩ := hW
  obtain ⟨H1, H2⟩ := hH
  have K1 := Lib.hid (fun w => cut77 (a := u) ⟨W1, W2⟩ (by omega) w)
  have K2 := Lib.hid (fun w => cut77 (a := v) ⟨H1, H2⟩ (by omega) w)
  have qi := ring_q W1 hu
  have qj := ring_q H1 hv
  have mi := Int.emod_nonneg u (show W ≠ 0 by omega)
  have mi2 := Int.emod_lt_of_pos u (show 0 < W by omega)
  have mj := Int.emod_nonneg v (show H ≠ 0 by omega)
  have mj2 := Int.emod_lt_of_pos v (show 0 < H by omega)
  have hF : Hid (crossF W H u v = (u % W, v % H)) := by show _ = _; unfold crossF; simp [hq, hp]
  obtain ⟨i, hi⟩ : ∃ i, Hid (i = u / W) := ⟨_, rfl⟩
  obtain ⟨j, hj⟩ : ∃ j, Hid (j = v / H) := ⟨_, rfl⟩
  obtain ⟨x, hx⟩ : ∃ x, Hid (x = u % W) := ⟨_, rfl⟩
  obtain ⟨y, hy⟩ : ∃ y, Hid (y = v % H) := ⟨_, rfl⟩
  rw [← hi.out] at qi
  rw [← hj.out] at qj
  rw [← hi.out, ← hx.out] at K1
  rw [← hj.out, ← hy.out] at K2
  rw [← hx.out] at mi mi2
  rw [← hy.out] at mj mj2
  have ai := and_one qi
  have aj := and_one qj
  obtain ⟨u1, u2⟩ := hu
  obtain ⟨v1, v2⟩ := hv
  obtain ⟨s1, s2⟩ := hs
  obtain ⟨i1, i2⟩ := qi
  obtain ⟨j1, j2⟩ := qj
  rw [← hj.out] at hq
  rw [hq] at aj
  rw [← hi.out] at hp
  rw [hp] at ai
  clear hq hp
  go_enter Tryz.func88, Tryz.ntmps88
  go_wp2_with fail
  refine (K1.out _).mono ?_
  rintro e w' ⟨rfl, hw'⟩
  subst w'
  go_wp2_with fail
  refine (K2.out _).mono ?_
  rintro e w' ⟨rfl, hw'⟩
  subst w'
  go_wp2
  exact bodyPost_ret (v := .tuple #[.int .i64 (x), .int .i64 (y), .bool true]) (by simp [results, Tryz.results88, go_sem]) rfl (WayPost.of (q := (x, y)) (by rw [hF.out, hx.out, hy.out]) (below_new _))
end Go.Proofs.YtcbhbojplcddkaaGreatDoor
namespace Go.Proofs.YtcbhbojplcddkaaGreatDoor
open Go.RowKit Go.RowBits
set_option linter.unusedSimpArgs false
set_option linter.unusedVariables false

/-! ### fold's sphere (printed by mkGdE.py) -/
def sphereF (n u v : Int) : Int × Int :=
  if (0 ≤ u ∧ u < n) ∧ 0 ≤ v ∧ v < n then (u, v)
  else if (min u v = -1 ∧ max u v = n) ∧ v < u then (0, n - 1)
  else if min u v = -1 ∧ max u v = n then (n - 1, 0)
  else if min u v = -1 then (max v 0, max u 0)
  else (min v (n - 1), min u (n - 1))
set_option maxRecDepth 20000 in
set_option maxHeartbeats 4000000 in
theorem sphere75_mm {n H tn sh a b : Int} (n1 : 1 ≤ n) (n2 : n ≤ 65536) {u : Int} (u1 : 0 ≤ u) (u2 : u < n) {v : Int} (v1 : 0 ≤ v) (v2 : v < n) (w : World) : Calls Tryz.prog 89 #[gridV 5 n H tn sh a b, .int .i64 u, .int .i64 v] w (WayPost w (sphereF n u v) true) := by
  have hF : Hid (sphereF n u v = (u, v)) := by
    show _ = _
    unfold sphereF
    repeat' split
    all_goals (first | rfl | (exfalso; omega) | (exact Prod.ext (by show _ = _; omega) (by show _ = _; omega)))
  have K1 := Lib.hid (fun w => on76 (a := u) (n := n) n1 w)
  have K2 := Lib.hid (fun w => on76 (a := v) (n := n) n1 w)
  rw [show onB u n = true from by unfold onB; simp; try omega] at K1
  rw [show onB v n = true from by unfold onB; simp; try omega] at K2
  go_enter Tryz.func89, Tryz.ntmps89
  go_wp2_with fail
  refine (K1.out _).mono ?_
  rintro e w' ⟨rfl, hw'⟩
  subst w'
  go_wp2_with fail
  refine (K2.out _).mono ?_
  rintro e w' ⟨rfl, hw'⟩
  subst w'
  go_wp2
  all_goals exact bodyPost_ret (v := .tuple #[.int .i64 (u), .int .i64 (v), .bool true]) (by simp [results, Tryz.results89, go_sem]) rfl (WayPost.of (q := (u, v)) (by rw [hF.out]) (below_new _))
set_option maxRecDepth 20000 in
set_option maxHeartbeats 4000000 in
theorem sphere75_lm {n H tn sh a b : Int} (n1 : 1 ≤ n) (n2 : n ≤ 65536) {v : Int} (v1 : 0 ≤ v) (v2 : v < n) (w : World) : Calls Tryz.prog 89 #[gridV 5 n H tn sh a b, .int .i64 (-1), .int .i64 v] w (WayPost w (sphereF n (-1) v) true) := by
  have hF : Hid (sphereF n (-1) v = (v, 0)) := by
    show _ = _
    unfold sphereF
    repeat' split
    all_goals (first | rfl | (exfalso; omega) | (exact Prod.ext (by show _ = _; omega) (by show _ = _; omega)))
  have K1 := Lib.hid (fun w => on76 (a := (-1)) (n := n) n1 w)
  have K2 := Lib.hid (fun w => on76 (a := v) (n := n) n1 w)
  rw [show onB (-1) n = false from by unfold onB; simp; try omega] at K1
  rw [show onB v n = true from by unfold onB; simp; try omega] at K2
  go_enter Tryz.func89, Tryz.ntmps89
  go_wp2_with fail
  refine (K1.out _).mono ?_
  rintro e w' ⟨rfl, hw'⟩
  subst w'
  go_wp2
  all_goals exact bodyPost_ret (v := .tuple #[.int .i64 (v), .int .i64 (0), .bool true]) (by simp [results, Tryz.results89, go_sem]) rfl (WayPost.of (q := (v, 0)) (by rw [hF.out]) (below_new _))
set_option maxRecDepth 20000 in
set_option maxHeartbeats 4000000 in
theorem sphere75_ml {n H tn sh a b : Int} (n1 : 1 ≤ n) (n2 : n ≤ 65536) {u : Int} (u1 : 0 ≤ u) (u2 : u < n) (w : World) : Calls Tryz.prog 89 #[gridV 5 n H tn sh a b, .int .i64 u, .int .i64 (-1)] w (WayPost w (sphereF n u (-1)) true) := by
  have hF : Hid (sphereF n u (-1) = (0, u)) := by
    show _ = _
    unfold sphereF
    repeat' split
    all_goals (first | rfl | (exfalso; omega) | (exact Prod.ext (by show _ = _; omega) (by show _ = _; omega)))
  have K1 := Lib.hid (fun w => on76 (a := u) (n := n) n1 w)
  have K2 := Lib.hid (fun w => on76 (a := (-1)) (n := n) n1 w)
  rw [show onB u n = true from by unfold onB; simp; try omega] at K1
  rw [show onB (-1) n = false from by unfold onB; simp; try omega] at K2
  go_enter Tryz.func89, Tryz.ntmps89
  go_wp2_with fail
  refine (K1.out _).mono ?_
  rintro e w' ⟨rfl, hw'⟩
  subst w'
  go_wp2_with fail
  refine (K2.out _).mono ?_
  rintro e w' ⟨rfl, hw'⟩
  subst w'
  go_wp2
  all_goals exact bodyPost_ret (v := .tuple #[.int .i64 (0), .int .i64 (u), .bool true]) (by simp [results, Tryz.results89, go_sem]) rfl (WayPost.of (q := (0, u)) (by rw [hF.out]) (below_new _))
set_option maxRecDepth 20000 in
set_option maxHeartbeats 4000000 in
theorem sphere75_hm {n H tn sh a b : Int} (n1 : 1 ≤ n) (n2 : n ≤ 65536) {v : Int} (v1 : 0 ≤ v) (v2 : v < n) (w : World) : Calls Tryz.prog 89 #[gridV 5 n H tn sh a b, .int .i64 n, .int .i64 v] w (WayPost w (sphereF n n v) true) := by
  have hF : Hid (sphereF n n v = (v, n - 1)) := by
    show _ = _
    unfold sphereF
    repeat' split
    all_goals (first | rfl | (exfalso; omega) | (exact Prod.ext (by show _ = _; omega) (by show _ = _; omega)))
  have K1 := Lib.hid (fun w => on76 (a := n) (n := n) n1 w)
  have K2 := Lib.hid (fun w => on76 (a := v) (n := n) n1 w)
  rw [show onB n n = false from by unfold onB; simp; try omega] at K1
  rw [show onB v n = true from by unfold onB; simp; try omega] at K2
  go_enter Tryz.func89, Tryz.ntmps89
  go_wp2_with fail
  refine (K1.out _).mono ?_
  rintro e w' ⟨rfl, hw'⟩
  subst w'
  go_wp2
  all_goals exact bodyPost_ret (v := .tuple #[.int .i64 (v), .int .i64 (n - 1), .bool true]) (by simp [results, Tryz.results89, go_sem]) rfl (WayPost.of (q := (v, n - 1)) (by rw [hF.out]) (below_new _))
set_option maxRecDepth 20000 in
set_option maxHeartbeats 4000000 in
theorem sphere75_mh {n H tn sh a b : Int} (n1 : 1 ≤ n) (n2 : n ≤ 65536) {u : Int} (u1 : 0 ≤ u) (u2 : u < n) (w : World) : Calls Tryz.prog 89 #[gridV 5 n H tn sh a b, .int .i64 u, .int .i64 n] w (WayPost w (sphereF n u n) true) := by
  have hF : Hid (sphereF n u n = (n - 1, u)) := by
    show _ = _
    unfold sphereF
    repeat' split
    all_goals (first | rfl | (exfalso; omega) | (exact Prod.ext (by show _ = _; omega) (by show _ = _; omega)))
  have K1 := Lib.hid (fun w => on76 (a := u) (n := n) n1 w)
  have K2 := Lib.hid (fun w => on76 (a := n) (n := n) n1 w)
  rw [show onB u n = true from by unfold onB; simp; try omega] at K1
  rw [show onB n n = false from by unfold onB; simp; try omega] at K2
  go_enter Tryz.func89, Tryz.ntmps89
  go_wp2_with fail
  refine (K1.out _).mono ?_
  rintro e w' ⟨rfl, hw'⟩
  subst w'
  go_wp2_with fail
  refine (K2.out _).mono ?_
  rintro e w' ⟨rfl, hw'⟩
  subst w'
  go_wp2
  all_goals exact bodyPost_ret (v := .tuple #[.int .i64 (n - 1), .int .i64 (u), .bool true]) (by simp [results, Tryz.results89, go_sem]) rfl (WayPost.of (q := (n - 1, u)) (by rw [hF.out]) (below_new _))
set_option maxRecDepth 20000 in
set_option maxHeartbeats 4000000 in
theorem sphere75_ll {n H tn sh a b : Int} (n1 : 1 ≤ n) (n2 : n ≤ 65536) (w : World) : Calls Tryz.prog 89 #[gridV 5 n H tn sh a b, .int .i64 (-1), .int .i64 (-1)] w (WayPost w (sphereF n (-1) (-1)) true) := by
  have hF : Hid (sphereF n (-1) (-1) = (0, 0)) := by
    show _ = _
    unfold sphereF
    repeat' split
    all_goals (first | rfl | (exfalso; omega) | (exact Prod.ext (by show _ = _; omega) (by show _ = _; omega)))
  have K1 := Lib.hid (fun w => on76 (a := (-1)) (n := n) n1 w)
  have K2 := Lib.hid (fun w => on76 (a := (-1)) (n := n) n1 w)
  rw [show onB (-1) n = false from by unfold onB; simp; try omega] at K1
  rw [show onB (-1) n = false from by unfold onB; simp; try omega] at K2
  go_enter Tryz.func89, Tryz.ntmps89
  go_wp2_with fail
  refine (K1.out _).mono ?_
  rintro e w' ⟨rfl, hw'⟩
  subst w'
  go_wp2
  all_goals exact bodyPost_ret (v := .tuple #[.int .i64 (0), .int .i64 (0), .bool true]) (by simp [results, Tryz.results89, go_sem]) rfl (WayPost.of (q := (0, 0)) (by rw [hF.out]) (below_new _))
set_option maxRecDepth 20000 in
set_option maxHeartbeats 4000000 in
theorem sphere75_hh {n H tn sh a b : Int} (n1 : 1 ≤ n) (n2 : n ≤ 65536) (w : World) : Calls Tryz.prog 89 #[gridV 5 n H tn sh a b, .int .i64 n, .int .i64 n] w (WayPost w (sphereF n n n) true) := by
  have hF : Hid (sphereF n n n = (n - 1, n - 1)) := by
    show _ = _
    unfold sphereF
    repeat' split
    all_goals (first | rfl | (exfalso; omega) | (exact Prod.ext (by show _ = _; omega) (by show _ = _; omega)))
  have K1 := Lib.hid (fun w => on76 (a := n) (n := n) n1 w)
  have K2 := Lib.hid (fun w => on76 (a := n) (n := n) n1 w)
  rw [show onB n n = false from by unfold onB; simp; try omega] at K1
  rw [show onB n n = false from by unfold onB; simp; try omega] at K2
  go_enter Tryz.func89, Tryz.ntmps89
  go_wp2_with fail
  refine (K1.out _).mono ?_
  rintro e w' ⟨rfl, hw'⟩
  subst w'
  go_wp2
  all_goals exact bodyPost_ret (v := .tuple #[.int .i64 (n - 1), .int .i64 (n - 1), .bool true]) (by simp [results, Tryz.results89, go_sem]) rfl (WayPost.of (q := (n - 1, n - 1)) (by rw [hF.out]) (below_new _))
set_option maxRecDepth 20000 in
set_option maxHeartbeats 4000000 in
theorem sphere75_lh {n H tn sh a b : Int} (n1 : 1 ≤ n) (n2 : n ≤ 65536) (w : World) : Calls Tryz.prog 89 #[gridV 5 n H tn sh a b, .int .i64 (-1), .int .i64 n] w (WayPost w (sphereF n (-1) n) true) := by
  have hF : Hid (sphereF n (-1) n = (n - 1, 0)) := by
    show _ = _
    unfold sphereF
    repeat' split
    all_goals (first | rfl | (exfalso; omega) | (exact Prod.ext (by show _ = _; omega) (by show _ = _; omega)))
  have K1 := Lib.hid (fun w => on76 (a := (-1)) (n := n) n1 w)
  have K2 := Lib.hid (fun w => on76 (a := n) (n := n) n1 w)
  rw [show onB (-1) n = false from by unfold onB; simp; try omega] at K1
  rw [show onB n n = false from by unfold onB; simp; try omega] at K2
  go_enter Tryz.func89, Tryz.ntmps89
  go_wp2_with fail
  refine (K1.out _).mono ?_
  rintro e w' ⟨rfl, hw'⟩
  subst w'
  go_wp2
  all_goals exact bodyPost_ret (v := .tuple #[.int .i64 (n - 1), .int .i64 (0), .bool true]) (by simp [results, Tryz.results89, go_sem]) rfl (WayPost.of (q := (n - 1, 0)) (by rw [hF.out]) (below_new _))
set_option maxRecDepth 20000 in
set_option maxHeartbeats 4000000 in
theorem sphere75_hl {n H tn sh a b : Int} (n1 : 1 ≤ n) (n2 : n ≤ 65536) (w : World) : Calls Tryz.prog 89 #[gridV 5 n H tn sh a b, .int .i64 n, .int .i64 (-1)] w (WayPost w (sphereF n n (-1)) true) := by
  have hF : Hid (sphereF n n (-1) = (0, n - 1)) := by
    show _ = _
    unfold sphereF
    repeat' split
    all_goals (first | rfl | (exfalso; omega) | (exact Prod.ext (by show _ = _; omega) (by show _ = _; omega)))
  have K1 := Lib.hid (fun w => on76 (a := n) (n := n) n1 w)
  have K2 := Lib.hid (fun w => on76 (a := (-1)) (n := n) n1 w)
  rw [show onB n n = false from by unfold onB; simp; try omega] at K1
  rw [show onB (-1) n = false from by unfold onB; simp; try omega] at K2
  go_enter Tryz.func89, Tryz.ntmps89
  go_wp2_with fail
  refine (K1.out _).mono ?_
  rintro e w' ⟨rfl, hw'⟩
  subst w'
  go_wp2
  all_goals exact bodyPost_ret (v := .tuple #[.int .i64 (0), .int .i64 (n - 1), .bool true]) (by simp [results, Tryz.results89, go_sem]) rfl (WayPost.of (q := (0, n - 1)) (by rw [hF.out]) (below_new _))
end Go.Proofs.YtcbhbojplcddkaaGreatDoor
namespace Go.Proofs.YtcbhbojplcddkaaGreatDoor
open Go.RowKit Go.RowBits
set_option linter.unusedSimpArgs false
set_option linter.unusedVariables false

/-! ### fold's small ones -/
abbrev ptV (a b : Int) : Value := .agg #[.int .i64 a, .int .i64 b]
set_option maxHeartbeats 2000000 in
theorem near69 {a b : Int} (a1 : -1099511627776 ≤ a) (a2 : a ≤ 1099511627776) (b1 : -1099511627776 ≤ b) (b2 : b ≤ 1099511627776) (w : World) : Calls Tryz.prog 83 #[ptV a b] w fun e w' => e = .returned (.bool true) ∧ Below w.heap.size w w' := by
  go_enter Tryz.func83, Tryz.ntmps83
  go_wp2
  all_goals
    go_ret
    exact ⟨rfl, below_new _⟩
set_option maxRecDepth 20000 in
set_option maxHeartbeats 2000000 in
theorem home66 {k W H tn sh x y : Int} (W1 : 1 ≤ W) (W2 : W ≤ 65536) (H1 : 1 ≤ H) (H2 : H ≤ 65536) (x1 : -1 ≤ x) (x2 : x ≤ W) (y1 : -1 ≤ y) (y2 : y ≤ H) (w : World) :
    Calls Tryz.prog 78 #[gridV k W H tn sh (-(W / 2)) (-(H / 2)), ptV (x - W / 2) (y - H / 2)] w fun e w' => e = .returned (.tuple #[.int .i64 x, .int .i64 y]) ∧ Below w.heap.size w w' := by
  obtain ⟨c, hc⟩ : ∃ c, c = W / 2 := ⟨_, rfl⟩
  obtain ⟨d, hd⟩ : ∃ d, d = H / 2 := ⟨_, rfl⟩
  have c1 : 0 ≤ c ∧ c ≤ 32768 := by omega
  have d1 : 0 ≤ d ∧ d ≤ 32768 := by omega
  rw [← hc, ← hd]
  obtain ⟨c1, c2⟩ := c1
  obtain ⟨d1, d2⟩ := d1
  have e1 : x - c - -c = x := by omega
  have e2 : y - d - -d = y := by omega
  have hw1 : IntKind.i64.wrap (x - c - -c) = x := by rw [e1]; exact IntWalk.i64_in _ (by omega)
  have hw2 : IntKind.i64.wrap (y - d - -d) = y := by rw [e2]; exact IntWalk.i64_in _ (by omega)
  clear hc hd
  go_enter Tryz.func78, Tryz.ntmps78
  go_wp2
  go_quiet (fail)
  go_wp2
  go_ret2
  exact ⟨rfl, below_drewN ((below_new _).alloc (by simp) _) _⟩
set_option maxRecDepth 20000 in
set_option maxHeartbeats 2000000 in
theorem place68 {k W H tn sh x y : Int} (W1 : 1 ≤ W) (W2 : W ≤ 65536) (H1 : 1 ≤ H) (H2 : H ≤ 65536) (x1 : -65537 ≤ x) (x2 : x ≤ 131073) (y1 : -65537 ≤ y) (y2 : y ≤ 131073) (w : World) :
    Calls Tryz.prog 80 #[gridV k W H tn sh (-(W / 2)) (-(H / 2)), .int .i64 x, .int .i64 y] w fun e w' => e = .returned (ptV (x - W / 2) (y - H / 2)) ∧ Below w.heap.size w w' := by
  obtain ⟨c, hc⟩ : ∃ c, c = W / 2 := ⟨_, rfl⟩
  obtain ⟨d, hd⟩ : ∃ d, d = H / 2 := ⟨_, rfl⟩
  have c1 : 0 ≤ c ∧ c ≤ 32768 := by omega
  have d1 : 0 ≤ d ∧ d ≤ 32768 := by omega
  rw [← hc, ← hd]
  obtain ⟨c1, c2⟩ := c1
  obtain ⟨d1, d2⟩ := d1
  have hw1 : IntKind.i64.wrap (x + -c) = x - c := by rw [show x + -c = x - c from by omega]; exact IntWalk.i64_in _ (by omega)
  have hw2 : IntKind.i64.wrap (y + -d) = y - d := by rw [show y + -d = y - d from by omega]; exact IntWalk.i64_in _ (by omega)
  have e1 : x + -c = x - c := by omega
  have e2 : y + -d = y - d := by omega
  clear hc hd
  go_enter Tryz.func80, Tryz.ntmps80
  go_wp2
  try simp only [Exit.inBlock, Exit.then]
  refine bodyPost_ret (v := ptV (x - c) (y - d)) ?_ rfl ⟨rfl, ?_⟩
  · rw [results_cell1 rfl]
    go_simp
  · exact (below_new _).alloc (by simp) _
abbrev rectV (a b c d : Int) : Value := .agg #[.int .i64 a, .int .i64 b, .int .i64 c, .int .i64 d]
set_option maxRecDepth 20000 in
set_option maxHeartbeats 2000000 in
theorem home70 {k W H tn sh : Int} (hk : 0 ≤ k ∧ k < 256) (ht : 0 ≤ tn) (hok : TopoOk k W H tn sh) (w : World) :
    Calls Tryz.prog 84 #[topoV k W H tn sh] w fun e w' => e = .returned (.tuple #[rectV (-(W / 2)) (-(H / 2)) W H, .int .i64 0]) ∧ Below w.heap.size w w' := by
  have K := Lib.hid (fun w => topo38 (W := W) (H := H) (sh := sh) hk ht w)
  have hok' := Lib.hid hok
  obtain ⟨_, ⟨W1, W2, H1, H2⟩, _⟩ := hok
  go_enter Tryz.func84, Tryz.ntmps84
  go_wp2_with fail
  refine (K.out _).mono ?_
  rintro e w1 ⟨r, rfl, hr, hb⟩
  obtain rfl : r = 0 := hr.2 hok'.out
  have hB : Hid (Below w.heap.size w w1) := by
    have h1 : Below w.heap.size w ((w.alloc (.cells #[.int .u8 k, .int .i64 W, .int .i64 H, .int .u8 tn, .int .i64 sh] 26)).alloc (.cells #[.int .i64 0, .int .i64 0, .int .i64 0, .int .i64 0] 191)) := (below_new _).alloc (by simp) _
    exact below_then h1 hb h1.size
  obtain ⟨hc, hf⟩ := bcell hb
  have hz : w.heap.size + 1 < w1.heap.size := by have := hb.size; simp at this; omega
  have hz0 : w.heap.size < w1.heap.size := by omega
  clear hb hr K
  go_wp2
  try simp only [Exit.inBlock, Exit.then]
  refine bodyPost_ret (v := .tuple #[rectV (-(W / 2)) (-(H / 2)) W H, .int .i64 0]) ?_ rfl ⟨rfl, ?_⟩
  · rw [results_cell2 rfl]
    go_simp
  · exact (((hB.out.setCell (by simp) _).setCell (by simp) _).setCell (by simp) _).setCell (by simp) _
def OfRel1 (w0 : World) (i : Value) (wx : World) : Prop := ∃ k : Nat, k ≤ 1 ∧ i = .int .i64 (k : Int) ∧ Below w0.heap.size w0 wx
def GridPost (w : World) (k W H tn sh : Int) (e : Ending) (w' : World) : Prop := e = .returned (.tuple #[gridV k W H tn sh (-(W / 2)) (-(H / 2)), .int .i64 0]) ∧ Below w.heap.size w w'
set_option maxRecDepth 20000 in
set_option maxHeartbeats 4000000 in
theorem of65 {k W H tn sh x y : Int} {g : Nat} (hk : 0 ≤ k ∧ k < 256) (ht : 0 ≤ tn) (hok : TopoOk k W H tn sh) (x1 : -1000000 ≤ x) (x2 : x ≤ 1000000) (y1 : -1000000 ≤ y) (y2 : y ≤ 1000000) (w : World)
    (c0 : w.cell? ⟨g, 0, none⟩ = some (.int .i64 x)) (c1 : w.cell? ⟨g, 1, none⟩ = some (.int .i64 y)) :
    Calls Tryz.prog 77 #[topoV k W H tn sh, .slice (some ⟨g, 0, none⟩) 1 1] w (GridPost w k W H tn sh) := by
  have K1 := Lib.hid (fun w => topo38 (W := W) (H := H) (sh := sh) hk ht w)
  have K2 := Lib.hid (fun w => near69 (a := x) (b := y) (by omega) (by omega) (by omega) (by omega) w)
  have K3 := Lib.hid (fun w => home70 hk ht hok w)
  have hok' := Lib.hid hok
  obtain ⟨_, ⟨W1, W2, H1, H2⟩, _⟩ := hok
  have hgl : g < w.heap.size := World.block_lt_of_cell? w _ c0
  go_enter Tryz.func77, Tryz.ntmps77
  go_wp2_with fail
  refine (K1.out _).mono ?_
  rintro e w1 ⟨r, rfl, hr, hb⟩
  obtain rfl : r = 0 := hr.2 hok'.out
  have h1 : Below w.heap.size w ((w.alloc (.cells #[.int .u8 k, .int .i64 W, .int .i64 H, .int .u8 tn, .int .i64 sh] 26)).alloc (.cells #[.int .u8 0, .int .i64 0, .int .i64 0, .int .u8 0, .int .i64 0, .int .i64 0, .int .i64 0] 171)) := (below_new _).alloc (by simp) _
  have hB := Lib.hid (below_then h1 hb h1.size)
  have E1 : Blks w1 [(w.heap.size + 1, #[.int .u8 0, .int .i64 0, .int .i64 0, .int .u8 0, .int .i64 0, .int .i64 0, .int .i64 0], 171), (w.heap.size, #[.int .u8 k, .int .i64 W, .int .i64 H, .int .u8 tn, .int .i64 sh], 26)] :=
    (((Blks.nil w).alloc rfl #[.int .u8 k, .int .i64 W, .int .i64 H, .int .u8 tn, .int .i64 sh] 26).alloc (n := w.heap.size + 1) (by simp) #[.int .u8 0, .int .i64 0, .int .i64 0, .int .u8 0, .int .i64 0, .int .i64 0, .int .i64 0] 171).kept hb
  have E1' := Lib.hid E1
  have hz0 : w.heap.size + 1 < w1.heap.size := by have := hb.size; simp at this; omega
  clear h1 hb E1 K1 hr
  go_wp2
  go_loopw [16] (fun i wx => OfRel1 w1 i wx) (fun i _ => 1 - (intOf i).toNat)
  case atStart => exact ⟨0, by omega, by go_num, Below.refl _ _⟩
  case round =>
    obtain ⟨q, hq, rfl, hBr⟩ := hrel
    have hBr' := Lib.hid hBr
    have hBw := Lib.hid (below_then hB.out hBr hB.out.size)
    have E2 := Lib.hid (E1'.out.kept hBr)
    have hz2 : w1.heap.size ≤ wr.heap.size := hBr.size
    rcases (show q = 0 ∨ q = 1 by omega) with rfl | rfl
    · have d0 := cell_kept hBw.out c0
      have d1 := cell_kept hBw.out c1
      clear hBr c0 c1
      go_wp2_with fail
      refine (K2.out _).mono ?_
      rintro e w3 ⟨rfl, hb3⟩
      have hB3 := Lib.hid (below_then ((Below.refl w1.heap.size wr).alloc hz2 (.cells #[.int .i64 x, .int .i64 y] 111)) hb3 (by simp; omega))
      clear hb3
      go_wp2
      exact ⟨⟨1, by omega, by go_num, hBr'.out.trans hB3.out⟩, by simp [intOf]⟩
    · have d0 : wr.cell? ⟨w.heap.size, 0, none⟩ = some (.int .u8 k) := E2.out.cell (cs := #[.int .u8 k, .int .i64 W, .int .i64 H, .int .u8 tn, .int .i64 sh]) (T := 26) (by simp) rfl
      have d1 : wr.cell? ⟨w.heap.size, 1, none⟩ = some (.int .i64 W) := E2.out.cell (cs := #[.int .u8 k, .int .i64 W, .int .i64 H, .int .u8 tn, .int .i64 sh]) (T := 26) (by simp) rfl
      have d2 : wr.cell? ⟨w.heap.size, 2, none⟩ = some (.int .i64 H) := E2.out.cell (cs := #[.int .u8 k, .int .i64 W, .int .i64 H, .int .u8 tn, .int .i64 sh]) (T := 26) (by simp) rfl
      have d3 : wr.cell? ⟨w.heap.size, 3, none⟩ = some (.int .u8 tn) := E2.out.cell (cs := #[.int .u8 k, .int .i64 W, .int .i64 H, .int .u8 tn, .int .i64 sh]) (T := 26) (by simp) rfl
      have d4 : wr.cell? ⟨w.heap.size, 4, none⟩ = some (.int .i64 sh) := E2.out.cell (cs := #[.int .u8 k, .int .i64 W, .int .i64 H, .int .u8 tn, .int .i64 sh]) (T := 26) (by simp) rfl
      clear hBr
      go_wp2_with fail
      refine (K3.out _).mono ?_
      rintro e w4 ⟨rfl, hb4⟩
      have hB4 := Lib.hid (below_then hBw.out hb4 hBw.out.size)
      have E4 := E2.out.kept hb4
      have hr4 : Hid (w4.heap[w.heap.size + 1]? = some (.cells #[.int .u8 0, .int .i64 0, .int .i64 0, .int .u8 0, .int .i64 0, .int .i64 0, .int .i64 0] 171 (0, 0))) := E4 (w.heap.size + 1, #[.int .u8 0, .int .i64 0, .int .i64 0, .int .u8 0, .int .i64 0, .int .i64 0, .int .i64 0], 171) (by simp)
      have hz4 : w.heap.size + 1 < w4.heap.size := (Array.getElem?_eq_some_iff.1 hr4.out).1
      obtain ⟨W5, hW5⟩ : ∃ W5, Hid (W5 = w4.alloc (.cells #[.int .i64 (-(W / 2)), .int .i64 (-(H / 2)), .int .i64 W, .int .i64 H] 191)) := ⟨_, rfl⟩
      have hB5 : Hid (Below w.heap.size w W5) := by rw [hW5.out]; exact hB4.out.alloc hB4.out.size _
      have h54 : Below w4.heap.size w4 W5 := by rw [hW5.out]; exact below_new _
      have f0 := cell_kept h54 (cell_kept hb4 d0)
      have f1 := cell_kept h54 (cell_kept hb4 d1)
      have f2 := cell_kept h54 (cell_kept hb4 d2)
      have f3 := cell_kept h54 (cell_kept hb4 d3)
      have f4 := cell_kept h54 (cell_kept hb4 d4)
      have hr5 : Hid (W5.heap[w.heap.size + 1]? = some (.cells #[.int .u8 0, .int .i64 0, .int .i64 0, .int .u8 0, .int .i64 0, .int .i64 0, .int .i64 0] 171 (0, 0))) := (h54.block _ hz4).trans hr4.out
      have hq5 : Hid (W5.heap[w4.heap.size]? = some (.cells #[.int .i64 (-(W / 2)), .int .i64 (-(H / 2)), .int .i64 W, .int .i64 H] 191 (0, 0))) := by rw [hW5.out]; exact heap_alloc_new w4 _
      go_upto_region 10 with fail
      rw [← hW5.out]
      obtain ⟨b5, hb5⟩ : ∃ b5, Hid (b5 = w4.heap.size) := ⟨_, rfl⟩
      rw [← hb5.out] at hq5 ⊢
      have q0 : W5.cell? ⟨b5, 0, none⟩ = some (.int .i64 (-(W / 2))) := by rw [cell_of_row W5 _ 0 _ 191 (0, 0) hq5.out]; rfl
      have q1 : W5.cell? ⟨b5, 1, none⟩ = some (.int .i64 (-(H / 2))) := by rw [cell_of_row W5 _ 1 _ 191 (0, 0) hq5.out]; rfl
      have r0 : W5.cell? ⟨w.heap.size + 1, 0, none⟩ = some (.int .u8 0) := by rw [cell_of_row W5 _ 0 _ 171 (0, 0) hr5.out]; rfl
      have rf0 : W5.frozen? ⟨w.heap.size + 1, 0, none⟩ = false := frozen_of_row W5 _ 0 _ 171 hr5.out
      have r1 : W5.cell? ⟨w.heap.size + 1, 1, none⟩ = some (.int .i64 0) := by rw [cell_of_row W5 _ 1 _ 171 (0, 0) hr5.out]; rfl
      have rf1 : W5.frozen? ⟨w.heap.size + 1, 1, none⟩ = false := frozen_of_row W5 _ 1 _ 171 hr5.out
      have r2 : W5.cell? ⟨w.heap.size + 1, 2, none⟩ = some (.int .i64 0) := by rw [cell_of_row W5 _ 2 _ 171 (0, 0) hr5.out]; rfl
      have rf2 : W5.frozen? ⟨w.heap.size + 1, 2, none⟩ = false := frozen_of_row W5 _ 2 _ 171 hr5.out
      have r3 : W5.cell? ⟨w.heap.size + 1, 3, none⟩ = some (.int .u8 0) := by rw [cell_of_row W5 _ 3 _ 171 (0, 0) hr5.out]; rfl
      have rf3 : W5.frozen? ⟨w.heap.size + 1, 3, none⟩ = false := frozen_of_row W5 _ 3 _ 171 hr5.out
      have r4 : W5.cell? ⟨w.heap.size + 1, 4, none⟩ = some (.int .i64 0) := by rw [cell_of_row W5 _ 4 _ 171 (0, 0) hr5.out]; rfl
      have rf4 : W5.frozen? ⟨w.heap.size + 1, 4, none⟩ = false := frozen_of_row W5 _ 4 _ 171 hr5.out
      have r5 : W5.cell? ⟨w.heap.size + 1, 5, none⟩ = some (.int .i64 0) := by rw [cell_of_row W5 _ 5 _ 171 (0, 0) hr5.out]; rfl
      have rf5 : W5.frozen? ⟨w.heap.size + 1, 5, none⟩ = false := frozen_of_row W5 _ 5 _ 171 hr5.out
      have r6 : W5.cell? ⟨w.heap.size + 1, 6, none⟩ = some (.int .i64 0) := by rw [cell_of_row W5 _ 6 _ 171 (0, 0) hr5.out]; rfl
      have rf6 : W5.frozen? ⟨w.heap.size + 1, 6, none⟩ = false := frozen_of_row W5 _ 6 _ 171 hr5.out
      clear hb4 E4 d0 d1 d2 d3 d4 h54 hz4 hz0 hz2 hgl W1 W2 H1 H2 x1 x2 y1 y2
      go_wp2
      try simp only [Exit.inBlock, Exit.then]
      obtain ⟨W6, hW6⟩ : ∃ W6, Hid (W6 = (((((((W5.setCell ⟨w.heap.size + 1, 0, none⟩ (.int .u8 k)).setCell ⟨w.heap.size + 1, 1, none⟩ (.int .i64 W)).setCell ⟨w.heap.size + 1, 2, none⟩ (.int .i64 H)).setCell ⟨w.heap.size + 1, 3, none⟩ (.int .u8 tn)).setCell ⟨w.heap.size + 1, 4, none⟩ (.int .i64 sh)).setCell ⟨w.heap.size + 1, 5, none⟩ (.int .i64 (-(W / 2)))).setCell ⟨w.heap.size + 1, 6, none⟩ (.int .i64 (-(H / 2))))) := ⟨_, rfl⟩
      have hr6 : Hid (W6.heap[w.heap.size + 1]? = some (.cells #[.int .u8 k, .int .i64 W, .int .i64 H, .int .u8 tn, .int .i64 sh, .int .i64 (-(W / 2)), .int .i64 (-(H / 2))] 171 (0, 0))) := by
        rw [hW6.out]
        exact (heap_setCell_same _ (w.heap.size + 1) 6 _ 171 _ (heap_setCell_same _ (w.heap.size + 1) 5 _ 171 _ (heap_setCell_same _ (w.heap.size + 1) 4 _ 171 _ (heap_setCell_same _ (w.heap.size + 1) 3 _ 171 _ (heap_setCell_same _ (w.heap.size + 1) 2 _ 171 _ (heap_setCell_same _ (w.heap.size + 1) 1 _ 171 _ (heap_setCell_same _ (w.heap.size + 1) 0 _ 171 _ hr5.out))))))).trans rfl
      have hB6 : Hid (Below w.heap.size w W6) := by rw [hW6.out]; exact (((((((hB5.out.setCell (by simp) _).setCell (by simp) _).setCell (by simp) _).setCell (by simp) _).setCell (by simp) _).setCell (by simp) _).setCell (by simp) _)
      rw [← hW6.out]
      have z0 : W6.cell? ⟨w.heap.size + 1, 0, none⟩ = some (.int .u8 k) := by rw [cell_of_row W6 _ 0 _ 171 (0, 0) hr6.out]; rfl
      have z1 : W6.cell? ⟨w.heap.size + 1, 1, none⟩ = some (.int .i64 W) := by rw [cell_of_row W6 _ 1 _ 171 (0, 0) hr6.out]; rfl
      have z2 : W6.cell? ⟨w.heap.size + 1, 2, none⟩ = some (.int .i64 H) := by rw [cell_of_row W6 _ 2 _ 171 (0, 0) hr6.out]; rfl
      have z3 : W6.cell? ⟨w.heap.size + 1, 3, none⟩ = some (.int .u8 tn) := by rw [cell_of_row W6 _ 3 _ 171 (0, 0) hr6.out]; rfl
      have z4 : W6.cell? ⟨w.heap.size + 1, 4, none⟩ = some (.int .i64 sh) := by rw [cell_of_row W6 _ 4 _ 171 (0, 0) hr6.out]; rfl
      have z5 : W6.cell? ⟨w.heap.size + 1, 5, none⟩ = some (.int .i64 (-(W / 2))) := by rw [cell_of_row W6 _ 5 _ 171 (0, 0) hr6.out]; rfl
      have z6 : W6.cell? ⟨w.heap.size + 1, 6, none⟩ = some (.int .i64 (-(H / 2))) := by rw [cell_of_row W6 _ 6 _ 171 (0, 0) hr6.out]; rfl
      refine bodyPost_ret (v := .tuple #[gridV k W H tn sh (-(W / 2)) (-(H / 2)), .int .i64 0]) ?_ rfl ⟨rfl, hB6.out⟩
      rw [results_cell2 rfl]
      go_simp
end Go.Proofs.YtcbhbojplcddkaaGreatDoor
