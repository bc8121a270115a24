import Derived.Test.YtigghbehnnghnaaWnJ
namespace Go.Proofs.Ytigghbehnnghnaa
open Go.RowKit Go.RowBits
set_option linter.unusedSimpArgs false
set_option linter.unusedVariables false

/-! ### Run: too much -/
set_option maxRecDepth 20000 in
set_option maxHeartbeats 4000000 in
theorem run30_budget {W0 : World} {r : RV} {ns : Nat} {h : Int} {nx : Nat → List Nat → Nat} {k : Int} {n : Nat} {w : World} {at' : Int} {v : Value} {rows : List (List Nat)} {N k0 m0 : Nat} {a0 : Int} (ha0 : a0 = if m0 = 0 then 0 else at' + (k0 : Int)) (S : StripG W0 r ns h nx k (n : Int)) (hw0 : Below W0.heap.size W0 w) (hr : rows.length * n ≤ 1000000000000) (hv : HasL w v rows) (hok : BandOk ns n at' rows)
    (hT : Tr rows k0 m0) (hN : N ≤ 1125899906842624) (hch : cheapB n m0 N = false) (hfar : 0 < m0 → farB (at' + (k0 : Int) - (N : Int)) = false ∧ farB (at' + (k0 : Int) + (m0 : Int) - 1 + (N : Int)) = false) :
    Calls Try.prog 30 #[ruleV r, topoV k (n : Int) 0, bandV (n : Int) at' v, .int .i64 (N : Int)] w fun e w' => e = .returned (.tuple #[bandV 0 0 (.slice none 0 0), .int .i64 4]) ∧ Below w.heap.size w w' := by
  have H0 := Lib.hid hw0
  have n1 : 1 ≤ n := by have := S.hW; omega
  have n2 : n ≤ 65536 := by have := S.hW; omega
  have hrl : rows.length ≤ 1000000000000 := Nat.le_trans (Nat.le_mul_of_pos_right _ (by omega)) hr
  have K58 := Lib.hid (fun W (hb : Below W0.heap.size W0 W) (hv : HasL W v rows) => may58G S hb hrl hv hok)
  have hfa : 0 < rows.length → -1099511627776 ≤ at' ∧ at' ≤ 1099511627776 := fun hp => farB_iff.1 (hok.far hp).1
  have hfb : 0 < rows.length → at' + (rows.length : Int) - 1 ≤ 1099511627776 := fun hp => (farB_iff.1 (hok.far hp).2).2
  have K60 := Lib.hid (fun W (hv : HasL W v rows) => trimmed60 (n := (n : Int)) (at' := at') (w := W) (v := v) (rows := rows) hrl (fun hp => by have := hfa hp; omega) hv (fun i hi => by rw [hok.len i hi]; omega))
  have hTl := hT.le
  have hcl : (cut rows k0 m0).length = m0 := cut_len hT.le
  have K59 := Lib.hid (fun W a u (hv : HasL W u (cut rows k0 m0)) => copied59 (n := n) (at' := a) (w := W) (v := u) (rows := cut rows k0 m0) ⟨n1, n2⟩ (by rw [hcl]; exact Nat.le_trans (Nat.mul_le_mul_right n (by omega)) hr) hv (fun i hi => by rw [hcl] at hi; rw [cut_get hT.le hi]; exact hok.len _ (by omega)))
  have hRin : Hid (RowsIn ns n (cut rows k0 m0)) := (⟨hok.len, hok.lt⟩ : RowsIn ns n rows).cut hT.le
  have hA0 : Hid (AtOk 0 a0 (cut rows k0 m0)) := fun hp => by
    rw [ha0]
    rw [hcl] at hp ⊢
    rw [if_neg (by omega)]
    have := hfa (by omega)
    have := hfb (by omega)
    omega
  have K62 := Lib.hid (fun W => cheap62 n m0 N n2 (by omega) hN W)
  rw [hch] at K62
  have S' := Lib.hid S
  have hT' := Lib.hid hT
  have hv' := Lib.hid hv
  have hfar' := Lib.hid hfar
  have hfa' := Lib.hid hfa
  have hfb' := Lib.hid hfb
  have hcl' := Lib.hid hcl
  have hshape : ∃ ad cap, v = .slice ad rows.length cap := by obtain ⟨ad, cap, e, _⟩ := hv; exact ⟨ad, cap, e⟩
  obtain ⟨ad, cap, rfl⟩ := hshape
  have hae' := Lib.hid ha0
  clear hv hok S hw0 hT hr hch hfar hfa hfb hcl ha0
  go_enter Try.func30, Try.ntmps30
  obtain ⟨W4, hW4⟩ : ∃ W4, W4 = (((w.alloc (.cells (ruleC r) 46)).alloc (.cells #[.int .u8 k, .int .i64 (n : Int), .int .i64 0, .int .u8 0, .int .i64 0] 49)).alloc (.cells #[.int .i64 (n : Int), .int .i64 at', .slice ad rows.length cap] 73)).alloc (.cells #[.int .i64 0, .int .i64 0, .slice none 0 0] 73) := ⟨_, rfl⟩
  have E4 : Blks W4 [(w.heap.size + 1 + 1 + 1, #[.int .i64 0, .int .i64 0, .slice none 0 0], 73), (w.heap.size + 1 + 1, #[.int .i64 (n : Int), .int .i64 at', .slice ad rows.length cap], 73), (w.heap.size + 1, #[.int .u8 k, .int .i64 (n : Int), .int .i64 0, .int .u8 0, .int .i64 0], 49), (w.heap.size, ruleC r, 46)] := by
    rw [hW4]
    exact (((((Blks.nil w).alloc rfl (ruleC r) 46).alloc (n := w.heap.size + 1) (by simp) #[.int .u8 k, .int .i64 (n : Int), .int .i64 0, .int .u8 0, .int .i64 0] 49).alloc (n := w.heap.size + 1 + 1) (by simp) #[.int .i64 (n : Int), .int .i64 at', .slice ad rows.length cap] 73).alloc (n := w.heap.size + 1 + 1 + 1) (by simp) #[.int .i64 0, .int .i64 0, .slice none 0 0] 73)
  have hB4 : Below w.heap.size w W4 := by rw [hW4]; exact (((below_new _).alloc (by simp) _).alloc (by simp; omega) _).alloc (by simp; omega) _
  have E4' := Lib.hid E4
  have hB4' := Lib.hid hB4
  have hz4 : w.heap.size + 1 + 1 + 1 < W4.heap.size := by rw [hW4]; simp
  have hW4' := Lib.hid hW4
  clear E4 hB4 hW4
  go_wp2_with fail
  rw [← hW4'.out]
  refine (K58.out W4 (below_then H0.out hB4'.out H0.out.size) (hv'.out.kept hB4'.out)).mono ?_
  rintro e w5 ⟨rfl, hb⟩
  have E5 := Lib.hid (E4'.out.kept hb)
  have hB5 := Lib.hid (below_then hB4'.out hb hB4'.out.size)
  have hz5 : W4.heap.size ≤ w5.heap.size := hb.size
  clear hb
  have b0 : w5.cell? ⟨w.heap.size + 1 + 1, 0, none⟩ = some (.int .i64 (n : Int)) := E5.out.cell (cs := #[.int .i64 (n : Int), .int .i64 at', .slice ad rows.length cap]) (T := 73) (by simp) rfl
  have b1 : w5.cell? ⟨w.heap.size + 1 + 1, 1, none⟩ = some (.int .i64 at') := E5.out.cell (cs := #[.int .i64 (n : Int), .int .i64 at', .slice ad rows.length cap]) (T := 73) (by simp) rfl
  have b2 : w5.cell? ⟨w.heap.size + 1 + 1, 2, none⟩ = some (.slice ad rows.length cap) := E5.out.cell (cs := #[.int .i64 (n : Int), .int .i64 at', .slice ad rows.length cap]) (T := 73) (by simp) rfl
  go_wp2_with fail
  refine (K60.out w5 (hv'.out.kept hB5.out)).mono ?_
  rintro e w6 hp
  obtain ⟨kk, m, v6, hT2, rfl, hL6, hb⟩ := hp
  obtain ⟨rfl, rfl⟩ := hT'.out.uniq hT2
  have E6 := Lib.hid (E5.out.kept hb)
  have hB6 := Lib.hid (below_then hB5.out hb hB5.out.size)
  have hz6 : w5.heap.size ≤ w6.heap.size := hb.size
  have hL6' := Lib.hid hL6
  rw [← hae'.out]
  obtain ⟨ad6, cap6, rfl⟩ : ∃ a c, v6 = .slice a m0 c := by
    obtain ⟨a, c, e, _⟩ := hL6
    exact ⟨a, c, by rw [e, hcl'.out]⟩
  clear hb b0 b1 b2 hT2 hL6
  go_wp2_with fail
  refine (K59.out w6 a0 _ hL6'.out).mono ?_
  rintro e w7 hp
  obtain ⟨v7, rfl, hL7, hb⟩ := hp
  obtain ⟨ad7, cap7, rfl⟩ : ∃ a c, v7 = .slice a m0 c := by
    obtain ⟨a, c, e, _⟩ := hL7.has
    exact ⟨a, c, by rw [e, hcl'.out]⟩
  have E7 := Lib.hid (E6.out.kept hb)
  have hB7 := Lib.hid (below_then hB6.out hb hB6.out.size)
  have hz7 : w6.heap.size ≤ w7.heap.size := hb.size
  have hL7' := Lib.hid hL7
  clear hb hL7
  have hab : -3000000000000 ≤ a0 ∧ a0 ≤ 3000000000000 := by
    have h1 := hae'.out
    have h2 := hfa'.out
    by_cases hm : m0 = 0
    · rw [if_pos hm] at h1; omega
    · rw [if_neg hm] at h1
      have := h2 (by omega)
      omega
  obtain ⟨hab1, hab2⟩ := hab
  have hNd : decide ((1125899906842624 : Int) < (N : Int)) = false := decide_eq_false (by omega)
  obtain ⟨W8, hW8⟩ : ∃ W8, W8 = w7.alloc (.cells #[.int .i64 (n : Int), .int .i64 a0, .slice ad7 m0 cap7] 73) := ⟨_, rfl⟩
  have E8 : Hid (Blks W8 [(w7.heap.size, #[.int .i64 (n : Int), .int .i64 a0, .slice ad7 m0 cap7], 73), (w.heap.size + 1 + 1 + 1, #[.int .i64 0, .int .i64 0, .slice none 0 0], 73), (w.heap.size + 1 + 1, #[.int .i64 (n : Int), .int .i64 at', .slice ad rows.length cap], 73), (w.heap.size + 1, #[.int .u8 k, .int .i64 (n : Int), .int .i64 0, .int .u8 0, .int .i64 0], 49), (w.heap.size, ruleC r, 46)]) := by
    rw [hW8]
    exact E7.out.alloc rfl _ 73
  have hB8 : Hid (Below w.heap.size w W8) := by rw [hW8]; exact hB7.out.alloc hB7.out.size _
  have hL8 : Hid (HasO (w.heap.size + 1 + 1 + 1 + 1) W8 (.slice ad7 m0 cap7) (cut rows k0 m0)) := by
    have h1 : HasO (w.heap.size + 1 + 1 + 1 + 1) w7 (.slice ad7 m0 cap7) (cut rows k0 m0) := hL7'.out.le (by omega)
    intro W' hE
    have hk : HasL W8 (.slice ad7 m0 cap7) (cut rows k0 m0) := by rw [hW8]; exact hL7'.out.has.kept (below_new _)
    exact h1.grow (by rw [hW8]; exact below_new _) W' hE
  have hz8 : W8.heap.size = w7.heap.size + 1 := by rw [hW8]; simp
  have hW8' := Lib.hid hW8
  clear hW8
  have hfr : Hid (0 < m0 → farB (a0 - (N : Int)) = false ∧ farB (a0 + (m0 : Int) - 1 + (N : Int)) = false) := fun hp => by
    have h1 := hae'.out
    rw [if_neg (by omega)] at h1
    rw [h1]
    exact hfar'.out hp
  go_upto_region 5 with fail
  rw [← hW8'.out]
  have s0 : W8.cell? ⟨w7.heap.size, 0, none⟩ = some (.int .i64 (n : Int)) := E8.out.cell (cs := #[.int .i64 (n : Int), .int .i64 a0, .slice ad7 m0 cap7]) (T := 73) (by simp) rfl
  have s1 : W8.cell? ⟨w7.heap.size, 1, none⟩ = some (.int .i64 a0) := E8.out.cell (cs := #[.int .i64 (n : Int), .int .i64 a0, .slice ad7 m0 cap7]) (T := 73) (by simp) rfl
  have s2 : W8.cell? ⟨w7.heap.size, 2, none⟩ = some (.slice ad7 m0 cap7) := E8.out.cell (cs := #[.int .i64 (n : Int), .int .i64 a0, .slice ad7 m0 cap7]) (T := 73) (by simp) rfl
  have q1 : W8.cell? ⟨w.heap.size + 1, 1, none⟩ = some (.int .i64 (n : Int)) := E8.out.cell (cs := #[.int .u8 k, .int .i64 (n : Int), .int .i64 0, .int .u8 0, .int .i64 0]) (T := 49) (by simp) rfl
  have F1 := Lib.hid (fun W => far61 (a0 - (N : Int)) W)
  have F2 := Lib.hid (fun W => far61 (a0 + (m0 : Int) - 1 + (N : Int)) W)
  have hNn : ¬ (N : Int) < 0 := by omega
  by_cases hm : 0 < m0
  case' pos =>
    have hfr2 := hfr.out hm
    rw [hfr2.1] at F1
    rw [hfr2.2] at F2
    clear hfr2
    go_wp2_with fail
    refine (F1.out _).mono ?_
    rintro e w' ⟨rfl, hw'⟩
    subst w'
    go_wp2_with fail
    refine (F2.out _).mono ?_
    rintro e w' ⟨rfl, hw'⟩
    subst w'
  all_goals
    go_wp2_with fail
    refine (K62.out _).mono ?_
    rintro e w' ⟨rfl, hw'⟩
    subst w'
    have hm3 : (w.heap.size + 1 + 1 + 1, (#[.int .i64 0, .int .i64 0, .slice none 0 0] : Array Value), 73) ∈ [(w7.heap.size, #[.int .i64 (n : Int), .int .i64 a0, .slice ad7 m0 cap7], 73), (w.heap.size + 1 + 1 + 1, (#[.int .i64 0, .int .i64 0, .slice none 0 0] : Array Value), 73), (w.heap.size + 1 + 1, #[.int .i64 (n : Int), .int .i64 at', .slice ad rows.length cap], 73), (w.heap.size + 1, #[.int .u8 k, .int .i64 (n : Int), .int .i64 0, .int .u8 0, .int .i64 0], 49), (w.heap.size, ruleC r, 46)] := by simp
    have f0 : W8.frozen? ⟨w.heap.size + 1 + 1 + 1, 0, none⟩ = false := frozen_of_row W8 _ 0 _ 73 (E8.out _ hm3)
    have f1 : W8.frozen? ⟨w.heap.size + 1 + 1 + 1, 1, none⟩ = false := frozen_of_row W8 _ 1 _ 73 (E8.out _ hm3)
    have f2 : W8.frozen? ⟨w.heap.size + 1 + 1 + 1, 2, none⟩ = false := frozen_of_row W8 _ 2 _ 73 (E8.out _ hm3)
    have d0 : W8.cell? ⟨w.heap.size + 1 + 1 + 1, 0, none⟩ = some (.int .i64 0) := E8.out.cell hm3 rfl
    have d1 : W8.cell? ⟨w.heap.size + 1 + 1 + 1, 1, none⟩ = some (.int .i64 0) := E8.out.cell hm3 rfl
    have d2 : W8.cell? ⟨w.heap.size + 1 + 1 + 1, 2, none⟩ = some (.slice none 0 0) := E8.out.cell hm3 rfl
    have FIN : Hid (∀ x y z : Value, Below w.heap.size w (((W8.setCell ⟨w.heap.size + 1 + 1 + 1, 0, none⟩ x).setCell ⟨w.heap.size + 1 + 1 + 1, 1, none⟩ y).setCell ⟨w.heap.size + 1 + 1 + 1, 2, none⟩ z)) := fun x y z => ((hB8.out.setCell (by simp; omega) _).setCell (by simp; omega) _).setCell (by simp; omega) _
    clear hm3
    go_wp2
    refine bodyPost_ret (v := .tuple #[bandV 0 0 (.slice none 0 0), .int .i64 4]) ?_ rfl ⟨rfl, FIN.out _ _ _⟩
    rw [results_cell2 rfl]
    go_simp

end Go.Proofs.Ytigghbehnnghnaa
