import Derived.Test.YtigghbehnnghnaaWnI
namespace Go.Proofs.Ytigghbehnnghnaa
open Go.RowKit Go.RowBits
set_option linter.unusedSimpArgs false
set_option linter.unusedVariables false

/-! ### Run of a band that may be -/
def RunRel (nx : Nat → List Nat → Nat) (h k : Int) (n ns m0 b8 b11 : Nat) (W0 : World) (a0 : Int) (R0 : List (List Nat)) (N : Nat) (i : Value) (wx : World) : Prop :=
  ∃ (j : Nat) (a : Int) (R : List (List Nat)) (v : Value), j ≤ N ∧ i = .int .i64 (j : Int) ∧ Below b11 W0 wx ∧ wx.heap[b11]? = some (.cells #[.int .i64 (n : Int), .int .i64 a, v] 73 (0, 0)) ∧ StepsR nx h k n j a0 R0 a R ∧ HasO (b8 + 1) wx v R ∧ RowsIn ns n R ∧ R.length ≤ m0 + 2 * j ∧ AtOk j a R
theorem cell_sub {w w' : World} (hs : ∀ (g : Nat) (o : Obj), w.heap[g]? = some o → w'.heap[g]? = some o) {b o : Nat} {u : Value} (h : w.cell? ⟨b, o, none⟩ = some u) : w'.cell? ⟨b, o, none⟩ = some u := by
  have hb := World.block_lt_of_cell? w _ h
  obtain ⟨ob, ho⟩ : ∃ ob, w.heap[b]? = some ob := ⟨_, Array.getElem?_eq_getElem hb⟩
  have e : w'.heap[b]? = w.heap[b]? := by rw [ho]; exact hs _ _ ho
  exact (World.cell?_of_block (w := w) (w' := w') (a := ⟨b, o, none⟩) e).trans h
theorem HasL.sub {w w' : World} {v : Value} {R : List (List Nat)} (h : HasL w v R) (hs : ∀ (g : Nat) (o : Obj), w.heap[g]? = some o → w'.heap[g]? = some o) : HasL w' v R := by
  obtain ⟨ad, cap, e, hl, hc⟩ := h
  refine ⟨ad, cap, e, hl, fun i hi => ?_⟩
  obtain ⟨g, o, u, h1, h2, ⟨a2, c2, h3, h4⟩⟩ := hc i hi
  refine ⟨g, o, u, h1, cell_sub hs h2, a2, c2, h3, fun j hj => ?_⟩
  obtain ⟨g2, o2, h5, h6⟩ := h4 j hj
  exact ⟨g2, o2, h5, cell_sub hs h6⟩
theorem HasO.grow {B : Nat} {w w' : World} {v : Value} {R : List (List Nat)} (h : HasO B w v R) (hb : Below w.heap.size w w') : HasO B w' v R := fun W' hE => by
  have h2 : HasL { W' with heap := W'.heap.extract 0 w.heap.size } v R := h _ fun g hg => by
    show (W'.heap.extract 0 w.heap.size)[g]? = w.heap[g]?
    by_cases hgs : g < w.heap.size
    · have e1 : W'.heap[g]? = w.heap[g]? := (hE g hg).trans (hb.block g hgs)
      have e2 : g < W'.heap.size := by
        rcases Nat.lt_or_ge g W'.heap.size with h | h
        · exact h
        · rw [Array.getElem?_eq_none h, Array.getElem?_eq_getElem hgs] at e1
          cases e1
      rw [← e1]
      simp [Array.getElem?_extract, hgs, e2]
      omega
    · rw [Array.getElem?_eq_none (by simp; omega), Array.getElem?_eq_none (by omega)]
  refine h2.sub fun g o hg => ?_
  have hg' : (W'.heap.extract 0 w.heap.size)[g]? = some o := hg
  have hlt := (Array.getElem?_eq_some_iff.1 hg').1
  simp at hlt
  rw [← hg']
  simp [Array.getElem?_extract]
  omega
theorem later63_any {W0 : World} {r : RV} {ns : Nat} {h : Int} {nx : Nat → List Nat → Nat} {k : Int} {n : Nat} {w : World} {a : Int} {v : Value} {R : List (List Nat)} (S : StripG W0 r ns h nx k (n : Int)) (hw0 : Below W0.heap.size W0 w) (hr : (R.length + 2) * n ≤ 1000000000000) (hat : 0 < R.length → -2000000000000 ≤ a ∧ a ≤ 2000000000000) (hv : HasL w v R) (hR : RowsIn ns n R) :
    Calls Try.prog 63 #[ruleV r, topoV k (n : Int) 0, bandV (n : Int) a v] w fun e w' => ∃ a' R' v', StepR nx h k n a R a' R' ∧ e = .returned (bandV (n : Int) a' v') ∧ HasO w.heap.size w' v' R' ∧ Below w.heap.size w w' := by
  by_cases hp : 0 < R.length
  · refine (later63 S hw0 hr hp (hat hp) hv hR.len hR.lt).mono ?_
    rintro e w' ⟨kk, m, v', hT, he, hO, hb⟩
    exact ⟨_, _, v', .inr ⟨hp, kk, m, hT, rfl, rfl⟩, he, hO, hb⟩
  · have : R = [] := List.eq_nil_of_length_eq_zero (by omega)
    subst this
    obtain ⟨ad, cap, rfl, _⟩ := hv
    refine (later63_nil (at' := a) (ad := ad) (cap := cap) (r := r) (k := k) (n := n)).mono ?_
    rintro e w' ⟨he, hb⟩
    exact ⟨a, [], .slice ad 0 cap, .inl ⟨rfl, rfl, rfl⟩, he, HasO.nil _ _ _ _, hb⟩
def RunPost (nx : Nat → List Nat → Nat) (h k : Int) (n : Nat) (N : Nat) (a0 : Int) (R0 : List (List Nat)) (w : World) (e : Ending) (w' : World) : Prop :=
  ∃ a R v, StepsR nx h k n N a0 R0 a R ∧ e = .returned (.tuple #[bandV (n : Int) a v, .int .i64 0]) ∧ HasO w.heap.size w' v R ∧ Below w.heap.size w w'
set_option maxRecDepth 20000 in
set_option maxHeartbeats 4000000 in
theorem run30G {W0 : World} {r : RV} {ns : Nat} {h : Int} {nx : Nat → List Nat → Nat} {k : Int} {n : Nat} {w : World} {at' : Int} {v : Value} {rows : List (List Nat)} {N k0 m0 : Nat} {a0 : Int} (ha0 : a0 = if m0 = 0 then 0 else at' + (k0 : Int)) (S : StripG W0 r ns h nx k (n : Int)) (hw0 : Below W0.heap.size W0 w) (hr : rows.length * n ≤ 1000000000000) (hv : HasL w v rows) (hok : BandOk ns n at' rows)
    (hT : Tr rows k0 m0) (hN : N ≤ 1125899906842624) (hch : cheapB n m0 N = true) (hfar : 0 < m0 → farB (at' + (k0 : Int) - (N : Int)) = false ∧ farB (at' + (k0 : Int) + (m0 : Int) - 1 + (N : Int)) = false) :
    Calls Try.prog 30 #[ruleV r, topoV k (n : Int) 0, bandV (n : Int) at' v, .int .i64 (N : Int)] w (RunPost nx h k n N a0 (cut rows k0 m0) w) := by
  have H0 := Lib.hid hw0
  have n1 : 1 ≤ n := by have := S.hW; omega
  have n2 : n ≤ 65536 := by have := S.hW; omega
  have hrl : rows.length ≤ 1000000000000 := Nat.le_trans (Nat.le_mul_of_pos_right _ (by omega)) hr
  have K58 := Lib.hid (fun W (hb : Below W0.heap.size W0 W) (hv : HasL W v rows) => may58G S hb hrl hv hok)
  have hfa : 0 < rows.length → -1099511627776 ≤ at' ∧ at' ≤ 1099511627776 := fun hp => farB_iff.1 (hok.far hp).1
  have hfb : 0 < rows.length → at' + (rows.length : Int) - 1 ≤ 1099511627776 := fun hp => (farB_iff.1 (hok.far hp).2).2
  have K60 := Lib.hid (fun W (hv : HasL W v rows) => trimmed60 (n := (n : Int)) (at' := at') (w := W) (v := v) (rows := rows) hrl (fun hp => by have := hfa hp; omega) hv (fun i hi => by rw [hok.len i hi]; omega))
  have hTl := hT.le
  have hcl : (cut rows k0 m0).length = m0 := cut_len hT.le
  have K59 := Lib.hid (fun W a u (hv : HasL W u (cut rows k0 m0)) => copied59 (n := n) (at' := a) (w := W) (v := u) (rows := cut rows k0 m0) ⟨n1, n2⟩ (by rw [hcl]; exact Nat.le_trans (Nat.mul_le_mul_right n (by omega)) hr) hv (fun i hi => by rw [hcl] at hi; rw [cut_get hT.le hi]; exact hok.len _ (by omega)))
  have hRin : Hid (RowsIn ns n (cut rows k0 m0)) := (⟨hok.len, hok.lt⟩ : RowsIn ns n rows).cut hT.le
  have hA0 : Hid (AtOk 0 a0 (cut rows k0 m0)) := fun hp => by
    rw [ha0]
    rw [hcl] at hp ⊢
    rw [if_neg (by omega)]
    have := hfa (by omega)
    have := hfb (by omega)
    omega
  have hchn : n * (m0 + 2 * N) ≤ 1048576 := by
    unfold cheapB at hch
    rw [Bool.and_eq_true, decide_eq_true_eq] at hch
    exact hch.1
  have hNs : N ≤ 524288 := by
    have h1 : 1 * (m0 + 2 * N) ≤ n * (m0 + 2 * N) := Nat.mul_le_mul_right _ n1
    omega
  have hm0s : m0 ≤ 1048576 := by
    have h1 : 1 * (m0 + 2 * N) ≤ n * (m0 + 2 * N) := Nat.mul_le_mul_right _ n1
    omega
  have K62 := Lib.hid (fun W => cheap62 n m0 N n2 (by omega) hN W)
  rw [hch] at K62
  have S' := Lib.hid S
  have hT' := Lib.hid hT
  have hv' := Lib.hid hv
  have hfar' := Lib.hid hfar
  have hfa' := Lib.hid hfa
  have hfb' := Lib.hid hfb
  have hcl' := Lib.hid hcl
  have hchn' := Lib.hid hchn
  have hshape : ∃ ad cap, v = .slice ad rows.length cap := by obtain ⟨ad, cap, e, _⟩ := hv; exact ⟨ad, cap, e⟩
  obtain ⟨ad, cap, rfl⟩ := hshape
  have hae' := Lib.hid ha0
  clear hv hok S hw0 hT hr hch hfar hfa hfb hcl hN hchn ha0
  go_enter Try.func30, Try.ntmps30
  obtain ⟨W4, hW4⟩ : ∃ W4, W4 = (((w.alloc (.cells (ruleC r) 46)).alloc (.cells #[.int .u8 k, .int .i64 (n : Int), .int .i64 0, .int .u8 0, .int .i64 0] 49)).alloc (.cells #[.int .i64 (n : Int), .int .i64 at', .slice ad rows.length cap] 73)).alloc (.cells #[.int .i64 0, .int .i64 0, .slice none 0 0] 73) := ⟨_, rfl⟩
  have E4 : Blks W4 [(w.heap.size + 1 + 1 + 1, #[.int .i64 0, .int .i64 0, .slice none 0 0], 73), (w.heap.size + 1 + 1, #[.int .i64 (n : Int), .int .i64 at', .slice ad rows.length cap], 73), (w.heap.size + 1, #[.int .u8 k, .int .i64 (n : Int), .int .i64 0, .int .u8 0, .int .i64 0], 49), (w.heap.size, ruleC r, 46)] := by
    rw [hW4]
    exact (((((Blks.nil w).alloc rfl (ruleC r) 46).alloc (n := w.heap.size + 1) (by simp) #[.int .u8 k, .int .i64 (n : Int), .int .i64 0, .int .u8 0, .int .i64 0] 49).alloc (n := w.heap.size + 1 + 1) (by simp) #[.int .i64 (n : Int), .int .i64 at', .slice ad rows.length cap] 73).alloc (n := w.heap.size + 1 + 1 + 1) (by simp) #[.int .i64 0, .int .i64 0, .slice none 0 0] 73)
  have hB4 : Below w.heap.size w W4 := by rw [hW4]; exact (((below_new _).alloc (by simp) _).alloc (by simp; omega) _).alloc (by simp; omega) _
  have E4' := Lib.hid E4
  have hB4' := Lib.hid hB4
  have hz4 : w.heap.size + 1 + 1 + 1 < W4.heap.size := by rw [hW4]; simp
  have hW4' := Lib.hid hW4
  clear E4 hB4 hW4
  go_wp2_with fail
  rw [← hW4'.out]
  refine (K58.out W4 (below_then H0.out hB4'.out H0.out.size) (hv'.out.kept hB4'.out)).mono ?_
  rintro e w5 ⟨rfl, hb⟩
  have E5 := Lib.hid (E4'.out.kept hb)
  have hB5 := Lib.hid (below_then hB4'.out hb hB4'.out.size)
  have hz5 : W4.heap.size ≤ w5.heap.size := hb.size
  clear hb
  have b0 : w5.cell? ⟨w.heap.size + 1 + 1, 0, none⟩ = some (.int .i64 (n : Int)) := E5.out.cell (cs := #[.int .i64 (n : Int), .int .i64 at', .slice ad rows.length cap]) (T := 73) (by simp) rfl
  have b1 : w5.cell? ⟨w.heap.size + 1 + 1, 1, none⟩ = some (.int .i64 at') := E5.out.cell (cs := #[.int .i64 (n : Int), .int .i64 at', .slice ad rows.length cap]) (T := 73) (by simp) rfl
  have b2 : w5.cell? ⟨w.heap.size + 1 + 1, 2, none⟩ = some (.slice ad rows.length cap) := E5.out.cell (cs := #[.int .i64 (n : Int), .int .i64 at', .slice ad rows.length cap]) (T := 73) (by simp) rfl
  go_wp2_with fail
  refine (K60.out w5 (hv'.out.kept hB5.out)).mono ?_
  rintro e w6 hp
  obtain ⟨kk, m, v6, hT2, rfl, hL6, hb⟩ := hp
  obtain ⟨rfl, rfl⟩ := hT'.out.uniq hT2
  have E6 := Lib.hid (E5.out.kept hb)
  have hB6 := Lib.hid (below_then hB5.out hb hB5.out.size)
  have hz6 : w5.heap.size ≤ w6.heap.size := hb.size
  have hL6' := Lib.hid hL6
  rw [← hae'.out]
  obtain ⟨ad6, cap6, rfl⟩ : ∃ a c, v6 = .slice a m0 c := by
    obtain ⟨a, c, e, _⟩ := hL6
    exact ⟨a, c, by rw [e, hcl'.out]⟩
  clear hb b0 b1 b2 hT2 hL6
  go_wp2_with fail
  refine (K59.out w6 a0 _ hL6'.out).mono ?_
  rintro e w7 hp
  obtain ⟨v7, rfl, hL7, hb⟩ := hp
  obtain ⟨ad7, cap7, rfl⟩ : ∃ a c, v7 = .slice a m0 c := by
    obtain ⟨a, c, e, _⟩ := hL7.has
    exact ⟨a, c, by rw [e, hcl'.out]⟩
  have E7 := Lib.hid (E6.out.kept hb)
  have hB7 := Lib.hid (below_then hB6.out hb hB6.out.size)
  have hz7 : w6.heap.size ≤ w7.heap.size := hb.size
  have hL7' := Lib.hid hL7
  clear hb hL7
  have hab : -3000000000000 ≤ a0 ∧ a0 ≤ 3000000000000 := by
    have h1 := hae'.out
    have h2 := hfa'.out
    by_cases hm : m0 = 0
    · rw [if_pos hm] at h1; omega
    · rw [if_neg hm] at h1
      have := h2 (by omega)
      omega
  obtain ⟨hab1, hab2⟩ := hab
  have hNd : decide ((1125899906842624 : Int) < (N : Int)) = false := decide_eq_false (by omega)
  obtain ⟨W8, hW8⟩ : ∃ W8, W8 = w7.alloc (.cells #[.int .i64 (n : Int), .int .i64 a0, .slice ad7 m0 cap7] 73) := ⟨_, rfl⟩
  have E8 : Hid (Blks W8 [(w7.heap.size, #[.int .i64 (n : Int), .int .i64 a0, .slice ad7 m0 cap7], 73), (w.heap.size + 1 + 1 + 1, #[.int .i64 0, .int .i64 0, .slice none 0 0], 73), (w.heap.size + 1 + 1, #[.int .i64 (n : Int), .int .i64 at', .slice ad rows.length cap], 73), (w.heap.size + 1, #[.int .u8 k, .int .i64 (n : Int), .int .i64 0, .int .u8 0, .int .i64 0], 49), (w.heap.size, ruleC r, 46)]) := by
    rw [hW8]
    exact E7.out.alloc rfl _ 73
  have hB8 : Hid (Below w.heap.size w W8) := by rw [hW8]; exact hB7.out.alloc hB7.out.size _
  have hL8 : Hid (HasO (w.heap.size + 1 + 1 + 1 + 1) W8 (.slice ad7 m0 cap7) (cut rows k0 m0)) := by
    have h1 : HasO (w.heap.size + 1 + 1 + 1 + 1) w7 (.slice ad7 m0 cap7) (cut rows k0 m0) := hL7'.out.le (by omega)
    intro W' hE
    have hk : HasL W8 (.slice ad7 m0 cap7) (cut rows k0 m0) := by rw [hW8]; exact hL7'.out.has.kept (below_new _)
    exact h1.grow (by rw [hW8]; exact below_new _) W' hE
  have hz8 : W8.heap.size = w7.heap.size + 1 := by rw [hW8]; simp
  have hW8' := Lib.hid hW8
  clear hW8
  have hfr : Hid (0 < m0 → farB (a0 - (N : Int)) = false ∧ farB (a0 + (m0 : Int) - 1 + (N : Int)) = false) := fun hp => by
    have h1 := hae'.out
    rw [if_neg (by omega)] at h1
    rw [h1]
    exact hfar'.out hp
  go_upto_region 5 with fail
  rw [← hW8'.out]
  have s0 : W8.cell? ⟨w7.heap.size, 0, none⟩ = some (.int .i64 (n : Int)) := E8.out.cell (cs := #[.int .i64 (n : Int), .int .i64 a0, .slice ad7 m0 cap7]) (T := 73) (by simp) rfl
  have s1 : W8.cell? ⟨w7.heap.size, 1, none⟩ = some (.int .i64 a0) := E8.out.cell (cs := #[.int .i64 (n : Int), .int .i64 a0, .slice ad7 m0 cap7]) (T := 73) (by simp) rfl
  have s2 : W8.cell? ⟨w7.heap.size, 2, none⟩ = some (.slice ad7 m0 cap7) := E8.out.cell (cs := #[.int .i64 (n : Int), .int .i64 a0, .slice ad7 m0 cap7]) (T := 73) (by simp) rfl
  have q1 : W8.cell? ⟨w.heap.size + 1, 1, none⟩ = some (.int .i64 (n : Int)) := E8.out.cell (cs := #[.int .u8 k, .int .i64 (n : Int), .int .i64 0, .int .u8 0, .int .i64 0]) (T := 49) (by simp) rfl
  have F1 := Lib.hid (fun W => far61 (a0 - (N : Int)) W)
  have F2 := Lib.hid (fun W => far61 (a0 + (m0 : Int) - 1 + (N : Int)) W)
  have hNn : ¬ (N : Int) < 0 := by omega
  by_cases hm : 0 < m0
  case' pos =>
    have hfr2 := hfr.out hm
    rw [hfr2.1] at F1
    rw [hfr2.2] at F2
    clear hfr2
    go_wp2_with fail
    refine (F1.out _).mono ?_
    rintro e w' ⟨rfl, hw'⟩
    subst w'
    go_wp2_with fail
    refine (F2.out _).mono ?_
    rintro e w' ⟨rfl, hw'⟩
    subst w'
  all_goals
    go_wp2_with fail
    refine (K62.out _).mono ?_
    rintro e w' ⟨rfl, hw'⟩
    subst w'
    go_wp2_with fail
    go_loopw [66] (fun i wx => RunRel nx h k n ns m0 (w.heap.size + 1 + 1 + 1) w7.heap.size W8 a0 (cut rows k0 m0) N i wx) (fun i _ => N - (intOf i).toNat)
    case atStart => exact ⟨0, a0, _, _, by omega, by go_num, Below.refl _ _, E8.out (w7.heap.size, #[.int .i64 (n : Int), .int .i64 a0, .slice ad7 m0 cap7], 73) (by simp), ⟨rfl, rfl⟩, hL8.out, hRin.out, by rw [hcl'.out]; omega, hA0.out⟩
    case round =>
      obtain ⟨j, a, R, v, hj, rfl, hB, hblk, hst, hO, hR, hlen, hA⟩ := hrel
      obtain ⟨adr, capr, rfl⟩ : ∃ x y, v = .slice x R.length y := by obtain ⟨x, y, e, _⟩ := hO.has; exact ⟨x, y, e⟩
      have hB' := Lib.hid hB
      have hblk' := Lib.hid hblk
      have hst' := Lib.hid hst
      have hO' := Lib.hid hO
      have hR' := Lib.hid hR
      have hA' := Lib.hid hA
      have Er : Hid (Blks wr [(w.heap.size + 1 + 1 + 1, #[.int .i64 0, .int .i64 0, .slice none 0 0], 73), (w.heap.size + 1, #[.int .u8 k, .int .i64 (n : Int), .int .i64 0, .int .u8 0, .int .i64 0], 49), (w.heap.size, ruleC r, 46)]) := fun x hx => (hB.block x.1 (by simp at hx; rcases hx with rfl | rfl | rfl <;> simp <;> omega)).trans (E8.out x (by simp at hx ⊢; rcases hx with rfl | rfl | rfl <;> simp))
      have hb11 : w7.heap.size < wr.heap.size := (Array.getElem?_eq_some_iff.1 hblk).1
      have hBw : Hid (Below w.heap.size w wr) := hB8.out.trans (hB.mono (by omega))
      have g0 : wr.cell? ⟨w7.heap.size, 0, none⟩ = some (.int .i64 (n : Int)) := by rw [cell_of_row wr _ 0 _ 73 (0, 0) hblk]; rfl
      have g1 : wr.cell? ⟨w7.heap.size, 1, none⟩ = some (.int .i64 a) := by rw [cell_of_row wr _ 1 _ 73 (0, 0) hblk]; rfl
      have g2 : wr.cell? ⟨w7.heap.size, 2, none⟩ = some (.slice adr R.length capr) := by rw [cell_of_row wr _ 2 _ 73 (0, 0) hblk]; rfl
      clear hB hblk hst hO hR hA
      by_cases hlt : j < N
      · have KL := Lib.hid (later63_any (w := wr) (a := a) (v := .slice adr R.length capr) (R := R) S'.out (below_then H0.out hBw.out H0.out.size) (by
          have h1 : (R.length + 2) * n ≤ (m0 + 2 * N + 2) * n := Nat.mul_le_mul_right n (by omega)
          have h2 : (m0 + 2 * N + 2) * n = n * (m0 + 2 * N) + 2 * n := by rw [Nat.add_mul, Nat.mul_comm n]
          have h3 := hchn'.out
          omega) (fun hp => by have := hA'.out hp; omega) hO'.out.has hR'.out)
        have r0 : wr.cell? ⟨w.heap.size, 0, none⟩ = some (.int .u8 r.kind) := Er.out.cell (cs := ruleC r) (T := 46) (by simp) rfl
        have r1 : wr.cell? ⟨w.heap.size, 1, none⟩ = some (.int .u8 r.hood) := Er.out.cell (cs := ruleC r) (T := 46) (by simp) rfl
        have r2 : wr.cell? ⟨w.heap.size, 2, none⟩ = some (.int .u16 r.born) := Er.out.cell (cs := ruleC r) (T := 46) (by simp) rfl
        have r3 : wr.cell? ⟨w.heap.size, 3, none⟩ = some (.int .u16 r.stay) := Er.out.cell (cs := ruleC r) (T := 46) (by simp) rfl
        have r4 : wr.cell? ⟨w.heap.size, 4, none⟩ = some (.int .i64 r.states) := Er.out.cell (cs := ruleC r) (T := 46) (by simp) rfl
        have r5 : wr.cell? ⟨w.heap.size, 5, none⟩ = some (.string r.name) := Er.out.cell (cs := ruleC r) (T := 46) (by simp) rfl
        have r6 : wr.cell? ⟨w.heap.size, 6, none⟩ = some (.int .i64 r.tst) := Er.out.cell (cs := ruleC r) (T := 46) (by simp) rfl
        have r7 : wr.cell? ⟨w.heap.size, 7, none⟩ = some (.int .u8 r.tho) := Er.out.cell (cs := ruleC r) (T := 46) (by simp) rfl
        have r8 : wr.cell? ⟨w.heap.size, 8, none⟩ = some (.int .u8 r.tsy) := Er.out.cell (cs := ruleC r) (T := 46) (by simp) rfl
        have r9 : wr.cell? ⟨w.heap.size, 9, none⟩ = some (.slice r.va r.vn r.vc) := Er.out.cell (cs := ruleC r) (T := 46) (by simp) rfl
        have r10 : wr.cell? ⟨w.heap.size, 10, none⟩ = some (.slice r.ra r.rn r.rc) := Er.out.cell (cs := ruleC r) (T := 46) (by simp) rfl
        have t0 : wr.cell? ⟨w.heap.size + 1, 0, none⟩ = some (.int .u8 k) := Er.out.cell (cs := #[.int .u8 k, .int .i64 (n : Int), .int .i64 0, .int .u8 0, .int .i64 0]) (T := 49) (by simp) rfl
        have t1 : wr.cell? ⟨w.heap.size + 1, 1, none⟩ = some (.int .i64 (n : Int)) := Er.out.cell (cs := #[.int .u8 k, .int .i64 (n : Int), .int .i64 0, .int .u8 0, .int .i64 0]) (T := 49) (by simp) rfl
        have t2 : wr.cell? ⟨w.heap.size + 1, 2, none⟩ = some (.int .i64 0) := Er.out.cell (cs := #[.int .u8 k, .int .i64 (n : Int), .int .i64 0, .int .u8 0, .int .i64 0]) (T := 49) (by simp) rfl
        have t3 : wr.cell? ⟨w.heap.size + 1, 3, none⟩ = some (.int .u8 0) := Er.out.cell (cs := #[.int .u8 k, .int .i64 (n : Int), .int .i64 0, .int .u8 0, .int .i64 0]) (T := 49) (by simp) rfl
        have t4 : wr.cell? ⟨w.heap.size + 1, 4, none⟩ = some (.int .i64 0) := Er.out.cell (cs := #[.int .u8 k, .int .i64 (n : Int), .int .i64 0, .int .u8 0, .int .i64 0]) (T := 49) (by simp) rfl
        go_wp2_with fail
        refine (KL.out).mono ?_
        rintro e w9 hp
        obtain ⟨a2, R2, v2, hs2, rfl, hO2, hb⟩ := hp
        obtain ⟨ad2, cap2, rfl⟩ : ∃ x y, v2 = .slice x R2.length y := by obtain ⟨x, y, e, _⟩ := hO2.has; exact ⟨x, y, e⟩
        have hin2 := hs2.in S'.out hR'.out
        have hAt2 := hs2.at hA'.out
        have hbl9 : w9.heap[w7.heap.size]? = some (.cells #[.int .i64 (n : Int), .int .i64 a, .slice adr R.length capr] 73 (0, 0)) := (hb.block _ hb11).trans hblk'.out
        have hB9 := Lib.hid (hB'.out.trans (hb.mono (by omega)))
        have hz9 := hb.size
        have f0 : w9.frozen? ⟨w7.heap.size, 0, none⟩ = false := frozen_of_row w9 _ 0 _ 73 hbl9
        have f1 : w9.frozen? ⟨w7.heap.size, 1, none⟩ = false := frozen_of_row w9 _ 1 _ 73 hbl9
        have f2 : w9.frozen? ⟨w7.heap.size, 2, none⟩ = false := frozen_of_row w9 _ 2 _ 73 hbl9
        have x0 : w9.cell? ⟨w7.heap.size, 0, none⟩ = some (.int .i64 (n : Int)) := by rw [cell_of_row w9 _ 0 _ 73 (0, 0) hbl9]; rfl
        have x1 : w9.cell? ⟨w7.heap.size, 1, none⟩ = some (.int .i64 a) := by rw [cell_of_row w9 _ 1 _ 73 (0, 0) hbl9]; rfl
        have x2 : w9.cell? ⟨w7.heap.size, 2, none⟩ = some (.slice adr R.length capr) := by rw [cell_of_row w9 _ 2 _ 73 (0, 0) hbl9]; rfl
        have FIN : Hid (∀ x y z : Value, x = .int .i64 (n : Int) → y = .int .i64 a2 → z = .slice ad2 R2.length cap2 → RunRel nx h k n ns m0 (w.heap.size + 1 + 1 + 1) w7.heap.size W8 a0 (cut rows k0 m0) N (.int .i64 ((j : Int) + 1)) (((w9.setCell ⟨w7.heap.size, 0, none⟩ x).setCell ⟨w7.heap.size, 1, none⟩ y).setCell ⟨w7.heap.size, 2, none⟩ z)) := fun x y z ex ey ez => by
          subst ex ey ez
          refine ⟨j + 1, a2, R2, _, by omega, by go_num, ((hB9.out.setCell (by simp) _).setCell (by simp) _).setCell (by simp) _, ?_, ⟨_, _, hst'.out, hs2⟩, (((hO2.set (by omega) _).set (by omega) _).set (by omega) _).le (by omega), hin2.1, by have := hin2.2; omega, hAt2⟩
          rw [heap_setCell_same _ _ 2 _ 73 _ (heap_setCell_same _ _ 1 _ 73 _ (heap_setCell_same _ _ 0 _ 73 _ hbl9))]
          rfl
        clear hs2 hO2 hb hin2 hAt2 hbl9 g0 g1 g2
        go_wp2
        exact ⟨FIN.out _ _ _ rfl rfl rfl, by simp [intOf]; omega⟩
      · obtain rfl : j = N := by omega
        clear hlt
        have hm3 : (w.heap.size + 1 + 1 + 1, (#[.int .i64 0, .int .i64 0, .slice none 0 0] : Array Value), 73) ∈ [(w.heap.size + 1 + 1 + 1, (#[.int .i64 0, .int .i64 0, .slice none 0 0] : Array Value), 73), (w.heap.size + 1, #[.int .u8 k, .int .i64 (n : Int), .int .i64 0, .int .u8 0, .int .i64 0], 49), (w.heap.size, ruleC r, 46)] := by simp
        have f0 : wr.frozen? ⟨w.heap.size + 1 + 1 + 1, 0, none⟩ = false := frozen_of_row wr _ 0 _ 73 (Er.out _ hm3)
        have f1 : wr.frozen? ⟨w.heap.size + 1 + 1 + 1, 1, none⟩ = false := frozen_of_row wr _ 1 _ 73 (Er.out _ hm3)
        have f2 : wr.frozen? ⟨w.heap.size + 1 + 1 + 1, 2, none⟩ = false := frozen_of_row wr _ 2 _ 73 (Er.out _ hm3)
        have d0 : wr.cell? ⟨w.heap.size + 1 + 1 + 1, 0, none⟩ = some (.int .i64 0) := Er.out.cell hm3 rfl
        have d1 : wr.cell? ⟨w.heap.size + 1 + 1 + 1, 1, none⟩ = some (.int .i64 0) := Er.out.cell hm3 rfl
        have d2 : wr.cell? ⟨w.heap.size + 1 + 1 + 1, 2, none⟩ = some (.slice none 0 0) := Er.out.cell hm3 rfl
        have FIN : Hid (∀ x y z : Value, HasO w.heap.size (((wr.setCell ⟨w.heap.size + 1 + 1 + 1, 0, none⟩ x).setCell ⟨w.heap.size + 1 + 1 + 1, 1, none⟩ y).setCell ⟨w.heap.size + 1 + 1 + 1, 2, none⟩ z) (.slice adr R.length capr) R ∧ Below w.heap.size w (((wr.setCell ⟨w.heap.size + 1 + 1 + 1, 0, none⟩ x).setCell ⟨w.heap.size + 1 + 1 + 1, 1, none⟩ y).setCell ⟨w.heap.size + 1 + 1 + 1, 2, none⟩ z)) := fun x y z =>
          ⟨(((hO'.out.set (by omega) _).set (by omega) _).set (by omega) _).le (by omega), ((hBw.out.setCell (by simp; omega) _).setCell (by simp; omega) _).setCell (by simp; omega) _⟩
        clear hm3
        go_wp2
        refine bodyPost_ret (v := .tuple #[bandV (n : Int) a (.slice adr R.length capr), .int .i64 0]) ?_ rfl ⟨a, R, _, hst'.out, rfl, (FIN.out _ _ _).1, (FIN.out _ _ _).2⟩
        rw [results_cell2 rfl]
        go_simp
end Go.Proofs.Ytigghbehnnghnaa
