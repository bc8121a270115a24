import Derived.Test.YtcbhbojplcddkaaGreatDoorZStL
import Derived.Test.YtcbhbojplcddkaaGreatDoorZGdO
import Derived.Test.YtcbhbojplcddkaaGreatDoorZGdT2
import Derived.Test.YtcbhbojplcddkaaGreatDoorZThA
import Derived.Deep.RegionHeld3
namespace Go.Proofs.YtcbhbojplcddkaaGreatDoor
open Go.RowKit Go.RowBits Go.Shelf Go.MapRaw
set_option linter.unusedSimpArgs false
set_option linter.unusedVariables false

/-! ### 64 at a time as one by one: plain -/
section
variable {hd : Int} {born stay : Nat} {k tn sh : Int} {w h : Nat} {c c' : Nat → Nat → Nat}
theorem frameB_N (x y : Int) : frameB k tn sh w h c x y = decide (frameBN k tn sh w h c x y ≠ 0) := by
  unfold frameB frameBN
  split
  · rfl
  · split
    · rfl
    · rfl
theorem rowB_get {r p : Nat} (hr : r < h + 2) (hp : p < w + 2) : (rowB k tn sh w h c r).getD p false = frameB k tn sh w h c ((p : Int) - 1) ((r : Int) - 1) := by
  have hi : r * (w + 2) + p < (w + 2) * (h + 2) := by
    have h1 : (r + 1) * (w + 2) ≤ (h + 2) * (w + 2) := Nat.mul_le_mul_right _ (by omega)
    rw [Nat.add_mul, Nat.one_mul, Nat.mul_comm (h + 2)] at h1
    omega
  have e : (rowB k tn sh w h c r).getD p false = (frameL k tn sh w h c).getD (r * (w + 2) + p) false := by
    unfold rowB
    simp [List.getD, List.getElem?_take, hp]
  rw [e, frameL_get _ _ _ _ _ _ hi, frameAt_at hp]
theorem near_bit {x y : Nat} {d1 d2 : Int} (hc : ∀ y x, y < h → x < w → c y x < 2) (hx : x < w) (hy : y < h) (h1 : -1 ≤ d1) (h2 : d1 ≤ 1) (h3 : -1 ≤ d2) (h4 : d2 ≤ 1) :
    bitw (Go.RowBits.rowAt (pack (rowB k tn sh w h c y)) (pack (rowB k tn sh w h c (y + 1))) (pack (rowB k tn sh w h c (y + 2))) d2) ((x : Int) + 1 + d1).toNat = decide ((frameLN k tn sh w h c).getD (((y : Int) + d2 + 1).toNat * (w + 2) + ((x : Int) + d1 + 1).toNat) 0 = 1) := by
  obtain ⟨r, hr⟩ : ∃ r : Nat, (y : Int) + d2 + 1 = (r : Int) := ⟨((y : Int) + d2 + 1).toNat, by omega⟩
  obtain ⟨p, hp⟩ : ∃ p : Nat, (x : Int) + d1 + 1 = (p : Int) := ⟨((x : Int) + d1 + 1).toNat, by omega⟩
  have e1 : Go.RowBits.rowAt (pack (rowB k tn sh w h c y)) (pack (rowB k tn sh w h c (y + 1))) (pack (rowB k tn sh w h c (y + 2))) d2 = pack (rowB k tn sh w h c r) := by
    unfold Go.RowBits.rowAt
    by_cases a : d2 = -1
    · rw [if_pos a, show r = y from by omega]
    · rw [if_neg a]
      by_cases b : d2 = 0
      · rw [if_pos b, show r = y + 1 from by omega]
      · rw [if_neg b, show r = y + 2 from by omega]
  have e2 : ((x : Int) + 1 + d1).toNat = p := by omega
  rw [e1, e2, hr, hp, Int.toNat_natCast, Int.toNat_natCast, pack_bit _ (by rw [rowB_len (by omega)]; omega), rowB_get (by omega) (by omega), frameB_N]
  have hi : r * (w + 2) + p < (w + 2) * (h + 2) := by
    have h1 : (r + 1) * (w + 2) ≤ (h + 2) * (w + 2) := Nat.mul_le_mul_right _ (by omega)
    rw [Nat.add_mul, Nat.one_mul, Nat.mul_comm (h + 2)] at h1
    omega
  have hlt := frameLN_lt (k := k) (tn := tn) (sh := sh) hc (r * (w + 2) + p)
  rw [frameLN_get _ _ _ _ _ _ hi, frameAtN_at (by omega)] at hlt ⊢
  rw [Bool.eq_iff_iff, decide_eq_true_eq, decide_eq_true_eq]
  omega
theorem cnt_ones {x y : Nat} (hc : ∀ y x, y < h → x < w → c y x < 2) (hx : x < w) (hy : y < h) {L : List (Int × Int)} (hL : ∀ j, j < L.length → -1 ≤ (L.getD j (0, 0)).1 ∧ (L.getD j (0, 0)).1 ≤ 1 ∧ -1 ≤ (L.getD j (0, 0)).2 ∧ (L.getD j (0, 0)).2 ≤ 1) :
    ∀ j, j ≤ L.length → cntTo L (pack (rowB k tn sh w h c y)) (pack (rowB k tn sh w h c (y + 1))) (pack (rowB k tn sh w h c (y + 2))) x j = ones ((aroundL L w (frameLN k tn sh w h c) x y).take j)
  | 0, _ => rfl
  | j + 1, hj => by
    obtain ⟨n1, n2, n3, n4⟩ := hL j (by omega)
    have ih := cnt_ones hc hx hy hL j (by omega)
    have hg : (aroundL L w (frameLN k tn sh w h c) x y).getD j 0 = (frameLN k tn sh w h c).getD (((y : Int) + (L.getD j (0, 0)).2 + 1).toNat * (w + 2) + ((x : Int) + (L.getD j (0, 0)).1 + 1).toNat) 0 := by
      unfold aroundL
      have e : L.getD j (0, 0) = L[j] := by rw [List.getD_eq_getElem?_getD, List.getElem?_eq_getElem (by omega)]; rfl
      rw [List.getD_eq_getElem?_getD, List.getElem?_map, List.getElem?_eq_getElem (by omega), e]
      rfl
    show cntTo L _ _ _ x j + _ = _
    rw [ih, ones_take _ (by rw [aroundL_len]; omega), hg, near_bit hc hx hy n1 n2 n3 n4]
    by_cases e : (frameLN k tn sh w h c).getD (((y : Int) + (L.getD j (0, 0)).2 + 1).toNat * (w + 2) + ((x : Int) + (L.getD j (0, 0)).1 + 1).toNat) 0 = 1
    · rw [if_pos e, decide_eq_true e]; rfl
    · rw [if_neg e, decide_eq_false e]; rfl
theorem stepC_S (hE : lifeE hd born stay = 0) (hc : ∀ y x, y < h → x < w → c y x < 2) {x y : Nat} (hy : y < h) (hx : x < w) : stepC hd born stay k tn sh w h c y x = stepS hd born stay k tn sh w h c y x := by
  have hd3 := (lifeE_good hE).1
  unfold stepC stepS lineC lineB nextN
  have e1 : ((List.range w).map fun i => lineBit born stay (cntTo (offs hd) (pack (rowB k tn sh w h c y)) (pack (rowB k tn sh w h c (y + 1))) (pack (rowB k tn sh w h c (y + 2))) i (offs hd).length) (bitw (pack (rowB k tn sh w h c (y + 1))) (i + 1))).getD x false = lineBit born stay (cntTo (offs hd) (pack (rowB k tn sh w h c y)) (pack (rowB k tn sh w h c (y + 1))) (pack (rowB k tn sh w h c (y + 2))) x (offs hd).length) (bitw (pack (rowB k tn sh w h c (y + 1))) (x + 1)) := by
    simp [List.getD, hx]
  have e2 := cnt_ones (k := k) (tn := tn) (sh := sh) hc hx hy (fun j hj => offs_near hd3 j hj) (offs hd).length (Nat.le_refl _)
  rw [List.take_of_length_le (by rw [aroundL_len]; exact Nat.le_refl _)] at e2
  have e3 : bitw (pack (rowB k tn sh w h c (y + 1))) (x + 1) = (c y x == 1) := by
    rw [pack_bit _ (by rw [rowB_len (by omega)]; omega), rowB_get (by omega) (by omega), frameB_N]
    unfold frameBN
    have g1 : (((x + 1 : Nat) : Int) - 1) = (x : Int) := by omega
    have g2 : (((y + 1 : Nat) : Int) - 1) = (y : Int) := by omega
    rw [g1, g2, if_pos ⟨by omega, by omega, by omega, by omega⟩, Int.toNat_natCast, Int.toNat_natCast]
    have := hc y x hy hx
    rw [Bool.eq_iff_iff, decide_eq_true_eq, beq_iff_eq]
    omega
  rw [e1, e2, e3]
  cases lineBit born stay (ones (aroundL (offs hd) w (frameLN k tn sh w h c) x y)) (c y x == 1) <;> rfl
theorem frameLN_congr (hcc : ∀ y x, y < h → x < w → c y x = c' y x) : frameLN k tn sh w h c = frameLN k tn sh w h c' := by
  unfold frameLN
  apply List.map_congr_left
  intro i hi
  unfold frameAtN frameBN
  have hI : ∀ x y, cellI w h c x y = cellI w h c' x y := fun x y => by
    unfold cellI
    split
    · exact hcc _ _ (by omega) (by omega)
    · rfl
  split
  · exact hcc _ _ (by omega) (by omega)
  · split
    · exact hI _ _
    · rfl
theorem iterC_S (hE : lifeE hd born stay = 0) (hc : ∀ y x, y < h → x < w → c y x < 2) : ∀ n, (∀ y x, y < h → x < w → iterC hd born stay k tn sh w h c n y x = iterS hd born stay k tn sh w h c n y x) ∧ (∀ y x, y < h → x < w → iterC hd born stay k tn sh w h c n y x < 2)
  | 0 => ⟨fun _ _ _ _ => rfl, hc⟩
  | n + 1 => by
    obtain ⟨i1, i2⟩ := iterC_S hE hc n
    have e : ∀ y x, y < h → x < w → iterC hd born stay k tn sh w h c (n + 1) y x = iterS hd born stay k tn sh w h c (n + 1) y x := fun y x hy hx => by
      show stepC hd born stay k tn sh w h (iterC hd born stay k tn sh w h c n) y x = stepS hd born stay k tn sh w h (iterS hd born stay k tn sh w h c n) y x
      rw [stepC_S hE i2 hy hx]
      unfold stepS
      rw [frameLN_congr i1, i1 y x hy hx]
    refine ⟨e, fun y x hy hx => ?_⟩
    rw [e y x hy hx]
    exact nextN_lt _ _ _ _
end
end Go.Proofs.YtcbhbojplcddkaaGreatDoor
namespace Go.Proofs.YtcbhbojplcddkaaGreatDoor
open Go.RowKit Go.RowBits Go.Shelf Go.MapRaw
set_option linter.unusedSimpArgs false
set_option linter.unusedVariables false

/-! ### PackedStep's walk -/
section
variable {B E : Nat} {W0 : World} {fb w h s : Nat} {pk : Bool} {c : Nat → Nat → Nat} {hd : Int} {born stay : Nat} {k tn sh W H n : Int}
set_option maxRecDepth 100000 in
set_option maxHeartbeats 8000000 in
theorem packedBad (f : Fld B E W0 fb w h s pk c) (hb1 : born < 65536) (hs1 : stay < 65536) (hk : 0 ≤ k ∧ k < 256) (ht : 0 ≤ tn) (hne0 : mayE hd born stay k W H tn sh w h s n 132 ≠ 0) :
    Calls Tryz.prog 6 #[lifeV hd born stay, topoV k W H tn sh, .pointer (some ⟨fb, 0, none⟩), .int .i64 n] W0 fun e w' => e = .returned (.tuple #[.pointer none, .int .i64 (mayE hd born stay k W H tn sh w h s n 132)]) ∧ Below W0.heap.size W0 w' := by
  obtain ⟨W2, hW2⟩ : ∃ W2, Hid (W2 = (W0.alloc (.cells #[.int .u8 hd, .int .u16 (born : Int), .int .u16 (stay : Int)] 24)).alloc (.cells #[.int .u8 k, .int .i64 W, .int .i64 H, .int .u8 tn, .int .i64 sh] 26)) := ⟨_, rfl⟩
  have hB2 : Hid (Below W0.heap.size W0 W2) := by rw [hW2.out]; exact (below_new _).alloc (by simp) _
  have KM := Lib.hid (mayR (W := W) (H := H) (sh := sh) (n := n) (hd := hd) (f.kept hB2.out) hb1 hs1 hk ht)
  generalize mayE hd born stay k W H tn sh w h s n 132 = r at *
  have hne : ¬ r = 0 := hne0
  clear f hne0
  refine (callsIn_wide (n := 8)).1 ?_
  refine callsIn_of_wp_marks Tryz.func6 rfl trivial ?_ rfl
  simp only [Tryz.ntmps6, List.size_toArray, List.length_cons, List.length_nil, Nat.reduceAdd, Nat.reduceSub, Array.replicate_succ, Array.replicate_zero, List.push_toArray, List.append_toArray, List.nil_append, List.cons_append]
  gi_wp2_with fail
  rw [← hW2.out]
  refine ⟨trivial, callsIn_wide.2 ((KM.out).mono ?_)⟩
  rintro e w3 ⟨rfl, hb3⟩
  have hB3 := Lib.hid (below_then hB2.out hb3 hB2.out.size)
  clear hb3 KM
  gi_wp2_with fail
  refine ⟨_, results_tmp2 rfl _ _ _, ?_⟩
  exact ⟨rfl, hB3.out⟩
set_option maxRecDepth 100000 in
set_option maxHeartbeats 8000000 in
theorem stepErr {fv : Value} {r : Int} (hr : r ≠ 0) (K : ∀ W', Below W0.heap.size W0 W' → Calls Tryz.prog 26 #[lifeRule hd born stay, topoV k W H tn sh, fv, .int .i64 n] W' fun e w' => e = .returned (.int .i64 r) ∧ Below W'.heap.size W' w') :
    Calls Tryz.prog 7 #[lifeRule hd born stay, topoV k W H tn sh, fv, .int .i64 n] W0 fun e w' => e = .returned (.tuple #[.pointer none, .int .i64 r]) ∧ Below W0.heap.size W0 w' := by
  obtain ⟨W2, hW2⟩ : ∃ W2, Hid (W2 = (W0.alloc (.cells (lifeRuleC hd born stay) 46)).alloc (.cells #[.int .u8 k, .int .i64 W, .int .i64 H, .int .u8 tn, .int .i64 sh] 26)) := ⟨_, rfl⟩
  have hB2 : Hid (Below W0.heap.size W0 W2) := by rw [hW2.out]; exact (below_new _).alloc (by simp) _
  have K1 := Lib.hid (K W2 hB2.out)
  have hr0 : (r == 0) = false := by rw [beq_eq_false_iff_ne]; exact hr
  clear K
  go_enter Tryz.func7, Tryz.ntmps7
  go_wp2_with fail
  rw [← hW2.out]
  clear hW2
  refine (K1.out).mono ?_
  rintro e w1 ⟨rfl, hb⟩
  have hB1 := Lib.hid (below_then hB2.out hb hB2.out.size)
  clear hb K1
  go_wp2_with fail
  refine bodyPost_ret (v := .tuple #[.pointer none, .int .i64 r]) ?_ rfl ⟨rfl, hB1.out⟩
  simp only [results, Tryz.f7, Array.toList]
  go_simp
set_option maxRecDepth 100000 in
set_option maxHeartbeats 8000000 in
theorem refusedNone {fv : Value} (K : ∀ W', Below W0.heap.size W0 W' → Calls Tryz.prog 40 #[fv] W' fun e w' => e = .returned (.int .i64 0) ∧ w' = W') :
    Calls Tryz.prog 26 #[lifeRule hd born stay, topoV k W H tn sh, fv, .int .i64 n] W0 fun e w' => e = .returned (.int .i64 1) ∧ Below W0.heap.size W0 w' := by
  obtain ⟨W2, hW2⟩ : ∃ W2, Hid (W2 = (W0.alloc (.cells (lifeRuleC hd born stay) 46)).alloc (.cells #[.int .u8 k, .int .i64 W, .int .i64 H, .int .u8 tn, .int .i64 sh] 26)) := ⟨_, rfl⟩
  have hB2 : Hid (Below W0.heap.size W0 W2) := by rw [hW2.out]; exact (below_new _).alloc (by simp) _
  have K1 := Lib.hid (K W2 hB2.out)
  clear K
  go_enter Tryz.func26, Tryz.ntmps26
  go_wp2_with fail
  rw [← hW2.out]
  clear hW2
  refine (K1.out).mono ?_
  rintro e w1 ⟨rfl, hw⟩
  subst w1
  go_wp2_with fail
  go_ret
  exact ⟨rfl, hB2.out⟩
end
end Go.Proofs.YtcbhbojplcddkaaGreatDoor
namespace Go.Proofs.YtcbhbojplcddkaaGreatDoor
open Go.RowKit Go.RowBits Go.Shelf Go.MapRaw
set_option linter.unusedSimpArgs false
set_option linter.unusedVariables false

/-! ### Same, the other way round; PackedStep's walk -/
set_option maxRecDepth 20000 in
set_option maxHeartbeats 8000000 in
theorem same13z {W : World} {fb fb' w h s : Nat} {pk pk' : Bool} {u u' : Value} {c : Nat → Nat → Nat} (hf : FBlk W fb w h s pk 151 u) (hf' : FBlk W fb' w h s pk' 147 u') (hw : w ≤ 65536) (hh : h ≤ 65536)
    (G1 : ∀ W' (y x : Nat), Below W.heap.size W W' → y < h → x < w → Calls Tryz.prog 118 #[u, .int .i64 (x : Int), .int .i64 (y : Int)] W' fun e w' => e = .returned (.int .u8 ((c y x : Nat) : Int)) ∧ Below W'.heap.size W' w')
    (G2 : ∀ W' (y x : Nat), Below W.heap.size W W' → y < h → x < w → Calls Tryz.prog 114 #[u', .int .i64 (x : Int), .int .i64 (y : Int)] W' fun e w' => e = .returned (.int .u8 ((c y x : Nat) : Int)) ∧ Below W'.heap.size W' w') :
    Calls Tryz.prog 9 #[.pointer (some ⟨fb, 0, none⟩), .pointer (some ⟨fb', 0, none⟩)] W fun e w' => e = .returned (.bool true) ∧ Below W.heap.size W w' := by
  have G1' := Lib.hid G1
  have G2' := Lib.hid G2
  have hfh := Lib.hid hf
  have hfh' := Lib.hid hf'
  have K1 : Hid (∀ W', Below W.heap.size W W' → Calls Tryz.prog 32 #[.pointer (some ⟨fb, 0, none⟩)] W' fun e w' => e = .returned (.bool false) ∧ w' = W') := fun W' hb => none33 (hf.kept hb)
  have K2 : Hid (∀ W', Below W.heap.size W W' → Calls Tryz.prog 32 #[.pointer (some ⟨fb', 0, none⟩)] W' fun e w' => e = .returned (.bool false) ∧ w' = W') := fun W' hb => none33 (hf'.kept hb)
  have hd : Hid (Below W.heap.size W W.drew) := (Below.refl _ _).drew
  have c0 : W.cell? ⟨fb, 0, none⟩ = some (.int .i64 (w : Int)) := hf.cell rfl
  have c1 : W.cell? ⟨fb, 1, none⟩ = some (.int .i64 (h : Int)) := hf.cell rfl
  have c2 : W.cell? ⟨fb, 2, none⟩ = some (.int .i64 (s : Int)) := hf.cell rfl
  have d0 : W.cell? ⟨fb', 0, none⟩ = some (.int .i64 (w : Int)) := hf'.cell rfl
  have d1 : W.cell? ⟨fb', 1, none⟩ = some (.int .i64 (h : Int)) := hf'.cell rfl
  have d2 : W.cell? ⟨fb', 2, none⟩ = some (.int .i64 (s : Int)) := hf'.cell rfl
  clear G1 G2 hf hf'
  go_enter Tryz.func9, Tryz.ntmps9
  go_wp2_with fail
  go_region_held3 (fun w' => w'.cell? ⟨fb, 0, none⟩ = some (.int .i64 (w : Int)) ∧ w'.cell? ⟨fb, 1, none⟩ = some (.int .i64 (h : Int)) ∧ w'.cell? ⟨fb, 2, none⟩ = some (.int .i64 (s : Int)) ∧ w'.cell? ⟨fb', 0, none⟩ = some (.int .i64 (w : Int)) ∧ w'.cell? ⟨fb', 1, none⟩ = some (.int .i64 (h : Int)) ∧ w'.cell? ⟨fb', 2, none⟩ = some (.int .i64 (s : Int))) (go_keep)
    (first
      | (go_at_call_of 32 (Value.pointer (some ⟨fb, 0, none⟩)); refine (K1.out _ hd.out).mono ?_; rintro e w1 ⟨rfl, hw1⟩; subst w1)
      | (go_at_call_of 32 (Value.pointer (some ⟨fb', 0, none⟩)); refine (K2.out _ hd.out).mono ?_; rintro e w1 ⟨rfl, hw1⟩; subst w1))
  go_wp2_with fail
  go_loopw [29] (fun i wr => ∃ y : Nat, y ≤ h ∧ i = .int .i64 (y : Int) ∧ Below W.heap.size W wr) (fun i _ => h - (intOf i).toNat)
  case atStart => exact ⟨0, by omega, by go_num, hd.out⟩
  case round =>
    obtain ⟨y, hy, rfl, hb⟩ := hrel
    have hb' := Lib.hid hb
    clear c0 c1 c2 d0 d1 d2
    have c0 : wr.cell? ⟨fb, 0, none⟩ = some (.int .i64 (w : Int)) := (hfh.out.kept hb).cell rfl
    clear hb
    by_cases hlt : y < h
    · have hyh : (y : Int) < (h : Int) := by omega
      go_wp2_with fail
      go_loopw [37] (fun i wx => ∃ x : Nat, x ≤ w ∧ i = .int .i64 (x : Int) ∧ Below W.heap.size W wx) (fun i _ => w - (intOf i).toNat)
      case atStart => exact ⟨0, by omega, by go_num, hb'.out⟩
      case round =>
        obtain ⟨x, hx, rfl, hb⟩ := hrel
        have hbx := Lib.hid hb
        clear c0
        have c4 : wr.cell? ⟨fb, 4, none⟩ = some (.iface 151 u) := (hfh.out.kept hb).cell rfl
        have d4 : wr.cell? ⟨fb', 4, none⟩ = some (.iface 147 u') := (hfh'.out.kept hb).cell rfl
        clear hb
        by_cases hlx : x < w
        · have hxw : (x : Int) < (w : Int) := by omega
          have k1 := Lib.hid (G1'.out _ y x (hbx.out.drew) hlt hlx)
          have hdx : Hid (Below wr.heap.size wr wr.drew) := (Below.refl _ _).drew
          have G2x : Hid (∀ w', Below wr.heap.size wr w' → Calls Tryz.prog 114 #[u', .int .i64 (x : Int), .int .i64 (y : Int)] w' fun e w'' => e = .returned (.int .u8 ((c y x : Nat) : Int)) ∧ Below w'.heap.size w' w'') := fun w' hb => G2'.out w' y x (below_then hbx.out hb hbx.out.size) hlt hlx
          have G1x : Hid (∀ w', Below wr.heap.size wr w' → Calls Tryz.prog 118 #[u, .int .i64 (x : Int), .int .i64 (y : Int)] w' fun e w'' => e = .returned (.int .u8 ((c y x : Nat) : Int)) ∧ Below w'.heap.size w' w'') := fun w' hb => G1'.out w' y x (below_then hbx.out hb hbx.out.size) hlt hlx
          generalize ((c y x : Nat) : Int) = q at *
          clear k1
          go_wp2_with fail
          go_region_held3 (fun w' => w'.cell? ⟨fb, 4, none⟩ = some (.iface 151 u) ∧ w'.cell? ⟨fb', 4, none⟩ = some (.iface 147 u')) (go_keep)
            (first
              | (go_at_call_of 118 u; refine (G1x.out _ hdx.out).mono ?_; rintro e w8 ⟨rfl, hb8⟩; have z4 := cell_kept hb8 (cell_kept hdx.out c4); have y4 := cell_kept hb8 (cell_kept hdx.out d4); have hb8' := Lib.hid (below_then hdx.out hb8 hdx.out.size); clear hb8)
              | (go_at_call_of 114 u'; refine (G2x.out _ hb8'.out).mono ?_; rintro e w9 ⟨rfl, hb9⟩; have z5 := cell_kept hb9 z4; have y5 := cell_kept hb9 y4; have hb9' := Lib.hid (below_then hbx.out (below_then hb8'.out hb9 hb8'.out.size) hbx.out.size); clear hb9))
          go_wp2_with fail
          exact ⟨⟨x + 1, by omega, by go_num, hb9'.out⟩, by simp [intOf]; omega⟩
        · obtain rfl : x = w := by omega
          go_wp2_with fail
          exact ⟨⟨y + 1, by omega, by go_num, hbx.out⟩, by simp [intOf]; omega⟩
    · obtain rfl : y = h := by omega
      go_wp2_with fail
      go_ret
      exact ⟨rfl, hb'.out⟩
/-- A packed field and another of its shape and cells are the same. -/
theorem Fld.sameA {B E B' E' : Nat} {W : World} {fb fb' w h s : Nat} {pk : Bool} {c c' : Nat → Nat → Nat} (f : Fld B E W fb w h s true c) (f' : Fld B' E' W fb' w h s pk c') (hc : ∀ y x, y < h → x < w → c' y x = c y x) :
    Calls Tryz.prog 9 #[.pointer (some ⟨fb, 0, none⟩), .pointer (some ⟨fb', 0, none⟩)] W fun e w' => e = .returned (.bool true) ∧ Below W.heap.size W w' := by
  obtain ⟨⟨w1, w2⟩, ⟨h1, h2⟩, _, _⟩ := f.side
  rcases f.keeps with ⟨e0, _⟩ | ⟨_, _, u, gs, q2, q3⟩
  · cases e0
  · rcases f'.keeps with ⟨_, u', gs', r2, r3⟩ | ⟨_, _, u', gs', r2, r3⟩
    · refine same13y q2 r2 w2 h2 (c := c) (fun W' y x hb hy hx => (q3.kept hb).get w2 h2 hx hy) (fun W' y x hb hy hx => ?_)
      have := (r3.kept hb).get hx hy
      rw [hc y x hy hx] at this
      exact this
    · refine same13w q2 r2 w2 h2 (c := c) (fun W' y x hb hy hx => (q3.kept hb).get w2 h2 hx hy) (fun W' y x hb hy hx => ?_)
      have := (r3.kept hb).get w2 h2 hx hy
      rw [hc y x hy hx] at this
      exact this
theorem Fld.sameB {B E B' E' : Nat} {W : World} {fb fb' w h s : Nat} {pk : Bool} {c c' : Nat → Nat → Nat} (f : Fld B E W fb w h s pk c) (f' : Fld B' E' W fb' w h s true c') (hc : ∀ y x, y < h → x < w → c' y x = c y x) :
    Calls Tryz.prog 9 #[.pointer (some ⟨fb, 0, none⟩), .pointer (some ⟨fb', 0, none⟩)] W fun e w' => e = .returned (.bool true) ∧ Below W.heap.size W w' := by
  obtain ⟨⟨w1, w2⟩, ⟨h1, h2⟩, _, _⟩ := f.side
  rcases f'.keeps with ⟨e0, _⟩ | ⟨_, _, u', gs', r2, r3⟩
  · cases e0
  · have G2 : ∀ W' (y x : Nat), Below W.heap.size W W' → y < h → x < w → _ := fun W' y x hb hy hx => (r3.kept hb).get w2 h2 hx hy
    rcases f.keeps with ⟨_, u, gs, q2, q3⟩ | ⟨_, _, u, gs, q2, q3⟩
    · refine same13z q2 r2 w2 h2 (c := c) (fun W' y x hb hy hx => (q3.kept hb).get hx hy) (fun W' y x hb hy hx => ?_)
      have := (r3.kept hb).get w2 h2 hx hy
      rw [hc y x hy hx] at this
      exact this
    · refine same13w q2 r2 w2 h2 (c := c) (fun W' y x hb hy hx => (q3.kept hb).get w2 h2 hx hy) (fun W' y x hb hy hx => ?_)
      have := (r3.kept hb).get w2 h2 hx hy
      rw [hc y x hy hx] at this
      exact this
theorem mayE_good {hd : Int} {born stay : Nat} {k W H tn sh : Int} {w h s : Nat} {n : Int} (h0 : mayE hd born stay k W H tn sh w h s n 132 = 0) :
    lifeE hd born stay = 0 ∧ TopoOk k W H tn sh ∧ 0 ≤ n ∧ n ≤ 1125899906842624 ∧ W = (w : Int) ∧ H = (h : Int) ∧ s = 2 ∧ n ≤ 67108864 / ((w : Int) * (h : Int)) := by
  by_cases a0 : lifeE hd born stay = 0
  · by_cases a1 : TopoOk k W H tn sh
    · by_cases a2 : n < 0
      · rw [mayE_2 a0 a1 a2] at h0; exact absurd h0 (by decide)
      · by_cases a3 : 1125899906842624 < n
        · rw [mayE_5 a0 a1 a2 a3] at h0; exact absurd h0 (by decide)
        · by_cases a4 : W = 0 ∨ H = 0
          · rw [mayE_42 a0 a1 a2 a3 a4] at h0; exact absurd h0 (by decide)
          · by_cases a5 : W = (w : Int) ∧ H = (h : Int)
            · by_cases a6 : s = 2
              · by_cases a7 : 67108864 / ((w : Int) * (h : Int)) < n
                · rw [mayE_4 a0 a1 a2 a3 a4 a5 a6 a7] at h0; exact absurd h0 (by decide)
                · exact ⟨a0, a1, by omega, by omega, a5.1, a5.2, a6, by omega⟩
              · rw [mayE_st a0 a1 a2 a3 a4 a5 a6] at h0; exact absurd h0 (by decide)
            · rw [mayE_21 a0 a1 a2 a3 a4 a5] at h0; exact absurd h0 (by decide)
    · rw [mayE_9 a0 a1] at h0; exact absurd h0 (by decide)
  · rw [mayE_8 a0] at h0; exact absurd h0 (by decide)
theorem life3 {w : World} {b : Nat} {hd : Int} {born stay : Nat} (h : w.heap[b]? = some (.cells #[.int .u8 hd, .int .u16 (born : Int), .int .u16 (stay : Int)] 24 (0, 0))) :
    w.cell? ⟨b, 0, none⟩ = some (.int .u8 hd) ∧ w.cell? ⟨b, 1, none⟩ = some (.int .u16 (born : Int)) ∧ w.cell? ⟨b, 2, none⟩ = some (.int .u16 (stay : Int)) := by
  have e : ∀ j, w.cell? ⟨b, j, none⟩ = (#[.int .u8 hd, .int .u16 (born : Int), .int .u16 (stay : Int)] : Array Value)[j]? := fun j => cell_of_row w b j _ 24 (0, 0) h
  exact ⟨(e 0).trans rfl, (e 1).trans rfl, (e 2).trans rfl⟩
set_option maxRecDepth 100000 in
set_option maxHeartbeats 8000000 in
theorem step3 (W : World) (hT : Tab W) {hd : Int} {born stay : Nat} (hb1 : born < 65536) (hs1 : stay < 65536) {k TW TH tn sh : Int} (hk : 0 ≤ k ∧ k < 256) (ht : 0 ≤ tn) {gw gh gs : Int} {pk : Bool} {cv : Value} {cl : List (Int × Int × Nat)} (hC : HasC W cv cl) (hcl : cl.length ≤ 9223372036854775807) (n : Int) :
    Calls Tryz.prog 3 #[lifeV hd born stay, topoV k TW TH tn sh, mgridV gw gh gs pk cv, .int .i64 n] W fun e w' => e = .returned (.bool true) ∧ Below W.heap.size W w' := by
  have hcv : ∃ a b c, cv = .slice a b c := by
    obtain ⟨a, c, e, _⟩ := hC
    exact ⟨_, _, _, e⟩
  obtain ⟨W2, hW2⟩ : ∃ W2, Hid (W2 = ((W.alloc (.cells #[.int .u8 hd, .int .u16 (born : Int), .int .u16 (stay : Int)] 24)).alloc (.cells #[.int .u8 k, .int .i64 TW, .int .i64 TH, .int .u8 tn, .int .i64 sh] 26)).alloc (.cells #[.int .i64 gw, .int .i64 gh, .int .i64 gs, .bool pk, cv] 29)) := ⟨_, rfl⟩
  have hB2 : Hid (Below W.heap.size W W2) := by rw [hW2.out]; exact ((below_new _).alloc (by simp) _).alloc (by simp; omega) _
  have E2 : Hid (Blks W2 [(W.heap.size + 1 + 1, #[.int .i64 gw, .int .i64 gh, .int .i64 gs, .bool pk, cv], 29), (W.heap.size + 1, #[.int .u8 k, .int .i64 TW, .int .i64 TH, .int .u8 tn, .int .i64 sh], 26), (W.heap.size, #[.int .u8 hd, .int .u16 (born : Int), .int .u16 (stay : Int)], 24)]) := by
    rw [hW2.out]
    exact (((Blks.nil W).alloc rfl _ _).alloc (by simp) _ _).alloc (by simp) _ _
  have K1 := Lib.hid (alive10 W2 (hT.kept hB2.out))
  have KM := Lib.hid (fun W' (h : HasC W' cv cl) => made12 (w := gw) (h := gh) (s := gs) (pk := pk) h hcl)
  have hC' := Lib.hid hC
  have hT' := Lib.hid hT
  obtain ⟨ca, cb, cc, rfl⟩ := hcv
  have hb1' := Lib.hid hb1
  have hs1' := Lib.hid hs1
  have hk' := Lib.hid hk
  have ht' := Lib.hid ht
  clear hC hT hcl hb1 hs1 hk ht
  go_enter Tryz.func3, Tryz.ntmps3
  go_wp2_with fail
  rw [← hW2.out]
  clear hW2
  refine (K1.out).mono ?_
  rintro e w3 ⟨rfl, hb⟩
  have hB3 := Lib.hid (below_then hB2.out hb hB2.out.size)
  have E3 := Lib.hid (E2.out.kept hb)
  obtain ⟨q0, q1, q2, q3, q4⟩ : w3.cell? ⟨W.heap.size + 1 + 1, 0, none⟩ = some (.int .i64 gw) ∧ w3.cell? ⟨W.heap.size + 1 + 1, 1, none⟩ = some (.int .i64 gh) ∧ w3.cell? ⟨W.heap.size + 1 + 1, 2, none⟩ = some (.int .i64 gs) ∧ w3.cell? ⟨W.heap.size + 1 + 1, 3, none⟩ = some (.bool pk) ∧ w3.cell? ⟨W.heap.size + 1 + 1, 4, none⟩ = some (.slice ca cb cc) := by
    have hm : (W.heap.size + 1 + 1, #[.int .i64 gw, .int .i64 gh, .int .i64 gs, .bool pk, .slice ca cb cc], 29) ∈ [(W.heap.size + 1 + 1, #[.int .i64 gw, .int .i64 gh, .int .i64 gs, .bool pk, Value.slice ca cb cc], 29), (W.heap.size + 1, #[.int .u8 k, .int .i64 TW, .int .i64 TH, .int .u8 tn, .int .i64 sh], 26), (W.heap.size, #[.int .u8 hd, .int .u16 (born : Int), .int .u16 (stay : Int)], 24)] := List.mem_cons_self
    exact ⟨E3.out.cell hm rfl, E3.out.cell hm rfl, E3.out.cell hm rfl, E3.out.cell hm rfl, E3.out.cell hm rfl⟩
  clear hb E2 hB2 K1
  go_wp2_with fail
  refine (KM.out _ (hC'.out.kept hB3.out)).mono ?_
  rintro e w4 hq
  clear q0 q1 q2 q3 q4 KM
  have hbb : Below w3.heap.size w3 w4 := by
    rcases hq with ⟨_, hb⟩ | ⟨_, _, _, _, _, _, _, _, _, _, _, hb⟩
    · exact hb
    · exact hb
  have hB4 := Lib.hid (below_then hB3.out hbb hB3.out.size)
  have E4 := Lib.hid (E3.out.kept hbb)
  have T4 := Lib.hid (hT'.out.kept hB4.out)
  clear hbb E3
  obtain ⟨l0, l1, l2⟩ := life3 (hd := hd) (born := born) (stay := stay) (E4.out (W.heap.size, _, _) (by simp))
  obtain ⟨t0, t1, t2, t3, t4⟩ := topo5 (k := k) (W := TW) (H := TH) (tn := tn) (sh := sh) (E4.out (W.heap.size + 1, _, _) (by simp))
  rcases hq with ⟨rfl, _⟩ | ⟨B, E, rb, fb, w, h, s, c, rfl, hBl, hF, _⟩
  · have K5 := Lib.hid (run7none (W0 := w4) (W := TW) (H := TH) (sh := sh) (n := n) (hd := hd) (born := born) (stay := stay) (k := k) (tn := tn) (fv := .pointer none) fun W' hb => w37n W')
    go_wp2_with fail
    refine (K5.out).mono ?_
    rintro e w5 ⟨rfl, hb⟩
    have hB5 := Lib.hid (below_then hB4.out hb hB4.out.size)
    have E5 := Lib.hid (E4.out.kept hb)
    have K6 := Lib.hid (stepErr (W0 := w5) (W := TW) (H := TH) (sh := sh) (n := n) (hd := hd) (born := born) (stay := stay) (k := k) (tn := tn) (fv := .pointer none) (r := 1) (by decide) (fun W' hb => refusedNone fun W'' hb'' => w37n W''))
    clear hb l0 l1 l2 t0 t1 t2 t3 t4 K5
    obtain ⟨l0, l1, l2⟩ := life3 (hd := hd) (born := born) (stay := stay) (E5.out (W.heap.size, _, _) (by simp))
    obtain ⟨t0, t1, t2, t3, t4⟩ := topo5 (k := k) (W := TW) (H := TH) (tn := tn) (sh := sh) (E5.out (W.heap.size + 1, _, _) (by simp))
    go_wp2_with fail
    refine (K6.out).mono ?_
    rintro e w6 ⟨rfl, hb⟩
    have hB6 := Lib.hid (below_then hB5.out hb hB5.out.size)
    clear hb
    go_wp2_with fail
    refine bodyPost_ret (v := .bool true) ?_ rfl ⟨rfl, hB6.out⟩
    simp only [results, Tryz.f3, Array.toList]
    go_simp
  · have F4 := Lib.hid hF
    clear hF hBl
    by_cases hgood : mayE hd born stay k TW TH tn sh w h s n 132 = 0
    · obtain ⟨a0, a1, a2, a3, rfl, rfl, rfl, a7⟩ := mayE_good hgood
      obtain ⟨N, rfl⟩ : ∃ N : Nat, n = (N : Int) := ⟨n.toNat, by omega⟩
      have heq := Lib.hid (iterC_S (k := k) (tn := tn) (sh := sh) a0 (fun y x hy hx => F4.out.low y x hy hx) N).1
      have K5 := Lib.hid (run7 (n := N) F4.out T4.out hb1'.out hs1'.out hk'.out ht'.out ⟨a0, a1, a2, a3, rfl, rfl, rfl⟩ a7)
      have K6 : Hid (∀ W0 : World, Below w4.heap.size w4 W0 → _) := Lib.hid fun (W0 : World) (hb : Below w4.heap.size w4 W0) => stepRun7 (n := N) (hd := hd) (sh := sh) (F4.out.kept hb) hb1'.out hs1'.out hk'.out ht'.out a0 a1 a7
      clear hgood a0 a1 a2 a3 a7
      go_wp2_with fail
      refine (K5.out).mono ?_
      rintro e w5 ⟨fa, B5, E5', rfl, _, hF5, hb⟩
      have hB5 := Lib.hid (below_then hB4.out hb hB4.out.size)
      have E5 := Lib.hid (E4.out.kept hb)
      have F5 := Lib.hid hF5
      have K7 := Lib.hid (K6.out w5 hb)
      clear hb hF5 l0 l1 l2 t0 t1 t2 t3 t4 K5 K6
      obtain ⟨l0, l1, l2⟩ := life3 (hd := hd) (born := born) (stay := stay) (E5.out (W.heap.size, _, _) (by simp))
      obtain ⟨t0, t1, t2, t3, t4⟩ := topo5 (k := k) (W := (w : Int)) (H := (h : Int)) (tn := tn) (sh := sh) (E5.out (W.heap.size + 1, _, _) (by simp))
      go_wp2_with fail
      refine (K7.out).mono ?_
      rintro e w6 ⟨fs, B6, E6, rfl, _, hF6, hb⟩
      have hB6 := Lib.hid (below_then hB5.out hb hB5.out.size)
      have G6 := Lib.hid (F5.out.kept hb)
      have F6 := Lib.hid hF6
      have S1 := Lib.hid G6.out.bits
      clear hb hF6 l0 l1 l2 t0 t1 t2 t3 t4 K7
      go_wp2_with fail
      refine (S1.out).mono ?_
      rintro e w7 ⟨rfl, hw⟩
      subst w7
      have S2 := Lib.hid (G6.out.sameA F6.out (fun y x hy hx => (heq.out y x hy hx).symm))
      clear S1
      go_wp2_with fail
      refine (S2.out).mono ?_
      rintro e w8 ⟨rfl, hb⟩
      have hB8 := Lib.hid (below_then hB6.out hb hB6.out.size)
      have S3 := Lib.hid ((F6.out.kept hb).sameB (G6.out.kept hb) (fun y x hy hx => heq.out y x hy hx))
      clear hb S2
      go_wp2_with fail
      refine (S3.out).mono ?_
      rintro e w9 ⟨rfl, hb⟩
      have hB9 := Lib.hid (below_then hB8.out hb hB8.out.size)
      clear hb S3
      go_wp2_with fail
      refine bodyPost_ret (v := .bool true) ?_ rfl ⟨rfl, hB9.out⟩
      simp only [results, Tryz.f3, Array.toList]
      go_simp
    · have K5 := Lib.hid (packedBad F4.out hb1'.out hs1'.out hk'.out ht'.out hgood)
      have htwo := mayE_two hgood
      have K6 : Hid (∀ W0 : World, Below w4.heap.size w4 W0 → mayE hd born stay k TW TH tn sh w h s n 7 ≠ 0 → _) := Lib.hid fun (W0 : World) (hb : Below w4.heap.size w4 W0) h7 => stepErr (W0 := W0) (W := TW) (H := TH) (sh := sh) (n := n) (hd := hd) (born := born) (stay := stay) (k := k) (tn := tn) (fv := .pointer (some ⟨fb, 0, none⟩)) h7 (fun W' hb' => refusedR (hd := hd) (W := TW) (H := TH) (sh := sh) (n := n) (F4.out.kept (below_then hb hb' hb.size)) hb1'.out hs1'.out hk'.out ht'.out)
      generalize mayE hd born stay k TW TH tn sh w h s n 132 = r at *
      generalize mayE hd born stay k TW TH tn sh w h s n 7 = r7 at *
      have hr0 : (r == 0) = false := by rw [beq_eq_false_iff_ne]; exact hgood
      go_wp2_with fail
      refine (K5.out).mono ?_
      rintro e w5 ⟨rfl, hb⟩
      have hB5 := Lib.hid (below_then hB4.out hb hB4.out.size)
      have E5 := Lib.hid (E4.out.kept hb)
      have K7 := Lib.hid (K6.out w5 hb (by omega))
      clear hb l0 l1 l2 t0 t1 t2 t3 t4 K5 K6
      obtain ⟨l0, l1, l2⟩ := life3 (hd := hd) (born := born) (stay := stay) (E5.out (W.heap.size, _, _) (by simp))
      obtain ⟨t0, t1, t2, t3, t4⟩ := topo5 (k := k) (W := TW) (H := TH) (tn := tn) (sh := sh) (E5.out (W.heap.size + 1, _, _) (by simp))
      rcases htwo with rfl | ⟨rfl, rfl⟩
      · go_wp2_with fail
        refine (K7.out).mono ?_
        rintro e w6 ⟨rfl, hb⟩
        have hB6 := Lib.hid (below_then hB5.out hb hB5.out.size)
        clear hb
        go_wp2_with fail
        refine bodyPost_ret (v := .bool true) ?_ rfl ⟨rfl, hB6.out⟩
        simp only [results, Tryz.f3, Array.toList]
        go_simp
      · go_wp2_with fail
        refine (K7.out).mono ?_
        rintro e w6 ⟨rfl, hb⟩
        have hB6 := Lib.hid (below_then hB5.out hb hB5.out.size)
        clear hb
        go_wp2_with fail
        refine bodyPost_ret (v := .bool true) ?_ rfl ⟨rfl, hB6.out⟩
        simp only [results, Tryz.f3, Array.toList]
        go_simp
end Go.Proofs.YtcbhbojplcddkaaGreatDoor
