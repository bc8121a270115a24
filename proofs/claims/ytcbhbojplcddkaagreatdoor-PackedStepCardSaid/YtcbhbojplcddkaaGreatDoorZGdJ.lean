import Derived.Test.YtcbhbojplcddkaaGreatDoorZGdH
namespace Go.Proofs.YtcbhbojplcddkaaGreatDoor
open Go.RowKit Go.RowBits
set_option linter.unusedSimpArgs false
set_option linter.unusedVariables false

/-! ### ring.frame -/
def FrO (k tn sh : Int) (w h : Nat) (c : Nat → Nat → Nat) (g N : Nat) (W2 : World) (v : Value) (wx : World) : Prop :=
  ∃ (y : Int) (l : List Bool), -1 ≤ y ∧ y ≤ (h : Int) + 1 ∧ v = .int .i64 y ∧ BBlk wx g l ∧ l.length = N ∧ (∀ i, i < (y + 1).toNat * (w + 2) → l.getD i false = frameAt k tn sh w h c i) ∧ Below g W2 wx
def FrH (w : Nat) (row : Nat → Nat) (gh : Nat) (W2 : World) (v : Value) (wx : World) : Prop :=
  ∃ (j : Nat) (l : List Bool), j ≤ w ∧ v = .int .i64 (j : Int) ∧ BBlk wx gh l ∧ l.length = w ∧ (∀ i, i < j → l.getD i false = decide (row i ≠ 0)) ∧ Below gh W2 wx
def FrX (k tn sh : Int) (w h : Nat) (c : Nat → Nat → Nat) (g N R : Nat) (W2 : World) (v : Value) (wx : World) : Prop :=
  ∃ (x : Int) (l : List Bool), -1 ≤ x ∧ x ≤ (w : Int) + 1 ∧ v = .int .i64 x ∧ BBlk wx g l ∧ l.length = N ∧ (∀ i, i < R * (w + 2) + (x + 1).toNat → l.getD i false = frameAt k tn sh w h c i) ∧
    (0 < R → R ≤ h → ∀ j, j < w → l.getD (R * (w + 2) + 1 + j) false = frameAt k tn sh w h c (R * (w + 2) + 1 + j)) ∧ Below g W2 wx
def FramePost (W : World) (L : List Bool) (e : Ending) (w' : World) : Prop := ∃ g, e = .returned (.slice (some ⟨g, 0, none⟩) L.length L.length) ∧ W.heap.size ≤ g ∧ BBlk w' g L ∧ Below W.heap.size W w'
set_option maxRecDepth 100000 in
set_option maxHeartbeats 16000000 in
theorem frame44 {B E : Nat} {W : World} {fb w h s : Nat} {pk : Bool} {c : Nat → Nat → Nat} {k tn sh : Int} (f : Fld B E W fb w h s pk c) (ht : 0 ≤ tn) (hok : TopoOk k w h tn sh) :
    Calls Tryz.prog 46 #[topoV k w h tn sh, .pointer (some ⟨fb, 0, none⟩), .func (.func 47) #[] #[]] W (FramePost W (frameL k tn sh w h c)) := by
  obtain ⟨⟨w1, w2⟩, ⟨h1, h2⟩, _, hwh⟩ := f.side
  obtain ⟨N, hN⟩ : ∃ N, N = (w + 2) * (h + 2) := ⟨_, rfl⟩
  have hNb : N ≤ 2000000 := by
    rw [hN, Nat.add_mul, Nat.mul_add]
    omega
  have hw0 : IntKind.i64.wrap (((w : Int) + 2) * ((h : Int) + 2)) = (N : Int) := by
    have e : ((w : Int) + 2) * ((h : Int) + 2) = (N : Int) := by rw [hN]; simp
    rw [e]; exact IntWalk.i64_in _ (by omega)
  have hmk := fun m => run_make_row' (P := Tryz.prog) 113 4 (.bool false) 1 Tryz.underlying113 info4' rfl .i64 .i64 m
  have hmkn : ∀ W, (Instr.makeSlice 113 (.int .i64 (N : Int)) (.int .i64 (N : Int))).run Tryz.prog W = .ok (.slice (some ⟨W.heap.size, 0, none⟩) N N) (W.alloc (.cells (madeCells #[.bool false] N) 4)) := fun W => hmk N (by omega) (by omega) W
  have hmkw : Hid (∀ W, (Instr.makeSlice 113 (.int .i64 (w : Int)) (.int .i64 (w : Int))).run Tryz.prog W = .ok (.slice (some ⟨W.heap.size, 0, none⟩) w w) (W.alloc (.cells (madeCells #[.bool false] w) 4))) := fun W => hmk w (by omega) (by omega) W
  have f' := Lib.hid f
  have hok' := Lib.hid hok
  have hN' := Lib.hid hN
  clear hmk f hok hN hwh
  have H0 : Hid (∀ w, Calls Tryz.prog 47 #[.int .u8 0] w fun e w' => e = .returned (.bool false) ∧ w' = w) := fun w => hold45 0 w
  go_enter Tryz.func46, Tryz.ntmps46
  go_wp2_with fail
  refine (H0.out _).mono ?_
  rintro e wq ⟨rfl, hq⟩
  subst hq
  obtain ⟨W2, hW2⟩ : ∃ W2, Hid (W2 = (W.alloc (.cells #[.int .u8 k, .int .i64 (w : Int), .int .i64 (h : Int), .int .u8 tn, .int .i64 sh] 26)).alloc (.cells (madeCells #[.bool false] N) 4)) := ⟨_, rfl⟩
  have hB2 : Hid (Below W.heap.size W W2) := by rw [hW2.out]; exact (below_new _).alloc (by simp) _
  have hp2 : Hid (W2.heap[W.heap.size]? = some (.cells #[.int .u8 k, .int .i64 (w : Int), .int .i64 (h : Int), .int .u8 tn, .int .i64 sh] 26 (0, 0))) := by rw [hW2.out]; exact ((below_new _).block _ (by simp)).trans (heap_alloc_new W _)
  have hg2 : Hid (BBlk W2 (W.heap.size + 1) (List.replicate N false)) := by
    rw [hW2.out]
    have := BBlk.new (W.alloc (.cells #[.int .u8 k, .int .i64 (w : Int), .int .i64 (h : Int), .int .u8 tn, .int .i64 sh] 26)) _ _ (made_bools N)
    rw [size_alloc] at this
    exact this
  have hz2 : Hid (W2.heap.size = W.heap.size + 2) := by rw [hW2.out]; show _ = _; simp
  obtain ⟨g, hg⟩ : ∃ g, Hid (g = W.heap.size + 1) := ⟨_, rfl⟩
  go_wp2_with fail
  rw [← hW2.out]
  rw [← hg.out] at hg2 ⊢
  clear hmkn hw0
  go_loopw [9] (fun v wx => FrO k tn sh w h c g N W2 v wx) (fun v _ => ((h : Int) + 1 - intOf v).toNat)
  case atStart => exact ⟨-1, _, by omega, by omega, rfl, hg2.out, by simp, by simp, Below.refl _ _⟩
  case round =>
    obtain ⟨y, l0, y1, y2, rfl, hl0, hn0, hm0, hB0⟩ := hrel
    have hl0' := Lib.hid hl0
    have hn0' := Lib.hid hn0
    have hm0' := Lib.hid hm0
    have hB0' := Lib.hid hB0
    have hpb := (hB0.block W.heap.size (by have := hg.out; omega)).trans hp2.out
    have p0 : wr.cell? ⟨W.heap.size, 0, none⟩ = some (.int .u8 k) := by rw [cell_of_row wr _ 0 _ 26 (0, 0) hpb]; rfl
    have p1 : wr.cell? ⟨W.heap.size, 1, none⟩ = some (.int .i64 (w : Int)) := by rw [cell_of_row wr _ 1 _ 26 (0, 0) hpb]; rfl
    have p2 : wr.cell? ⟨W.heap.size, 2, none⟩ = some (.int .i64 (h : Int)) := by rw [cell_of_row wr _ 2 _ 26 (0, 0) hpb]; rfl
    by_cases hlt : y ≤ (h : Int)
    · obtain ⟨R, hR⟩ : ∃ R : Nat, R = (y + 1).toNat := ⟨_, rfl⟩
      obtain ⟨P, hP⟩ : ∃ P : Nat, P = R * (w + 2) := ⟨_, rfl⟩
      have hyR : y + 1 = (R : Int) := by omega
      have hRh : R ≤ h + 1 := by omega
      have hPN : P + (w + 2) ≤ N := by
        have h3 : (R + 1) * (w + 2) ≤ (h + 2) * (w + 2) := Nat.mul_le_mul_right _ (by omega)
        rw [Nat.add_mul, Nat.one_mul, ← hP, Nat.mul_comm (h + 2), ← hN'.out] at h3
        exact h3
      have e1 : (y + 1) * ((w : Int) + 2) = (P : Int) := by rw [hyR, hP]; simp
      have e2 : (y + 2) * ((w : Int) + 2) = ((P + (w + 2) : Nat) : Int) := by
        rw [show y + 2 = (y + 1) + 1 from by omega, Int.add_mul, e1]; omega
      have hwP : IntKind.i64.wrap ((y + 1) * ((w : Int) + 2)) = (P : Int) := by rw [e1]; exact IntWalk.i64_in _ (by omega)
      have hwQ : IntKind.i64.wrap ((y + 2) * ((w : Int) + 2)) = ((P + (w + 2) : Nat) : Int) := by rw [e2]; exact IntWalk.i64_in _ (by omega)
      have hsl : ∀ W, (Instr.slice 113 (.slice (some ⟨g, 0, none⟩) N N) (some (.int .i64 (P : Int))) (some (.int .i64 ((P + (w + 2) : Nat) : Int))) none).run Tryz.prog W = .ok (.slice (some ⟨g, P, none⟩) (w + 2) (N - P)) W := fun W => by
        have := slice99_lh W g N P (P + (w + 2)) (by omega) hPN
        rwa [show P + (w + 2) - P = w + 2 from by omega] at this
      obtain ⟨Q, hQ⟩ : ∃ Q : Nat, Hid (Q = P + (w + 2)) := ⟨_, rfl⟩
      obtain ⟨C, hC⟩ : ∃ C : Nat, Hid (C = N - P) := ⟨_, rfl⟩
      rw [← hQ.out] at hwQ hsl
      rw [← hC.out] at hsl
      have hyR' := Lib.hid hyR
      have hP' := Lib.hid hP
      clear e1 e2 hR hyR hP hl0 hn0 hm0 hB0 hpb
      by_cases hy0 : 0 ≤ y
      · by_cases hyh : y < (h : Int)
        · obtain ⟨yn, rfl⟩ : ∃ yn : Nat, y = (yn : Int) := ⟨y.toNat, by omega⟩
          have hWr : Hid (Below W.heap.size W wr) := hB2.out.trans (hB0'.out.mono (by have := hg.out; omega))
          have KL := Lib.hid (Fld.line (f'.out.kept hWr.out) (y := yn) (by omega))
          go_wp2_with fail
          refine (KL.out).mono ?_
          rintro e w1 ⟨gl, rfl, hgl, hgY, hb1⟩
          have hgY' := Lib.hid hgY
          have hb1' := Lib.hid hb1
          have hB1 := Lib.hid (below_then hB0'.out hb1 (by have := hg.out; have := hB0'.out.size; have := hz2.out; omega))
          have hgw : g < wr.heap.size := hl0'.out.lt
          have hl1 := Lib.hid (hl0'.out.kept hb1)
          have hgll := hgY.lt
          have hmk9 := hmkw.out
          have hz1 : wr.heap.size ≤ w1.heap.size := hb1.size
          clear hgY hb1 KL p0 p1 p2
          go_upto_region 10 with fail
          obtain ⟨W5, hW5⟩ : ∃ W5, Hid (W5 = w1.alloc (.cells (madeCells #[.bool false] w) 4)) := ⟨_, rfl⟩
          have hb5 : Hid (Below w1.heap.size w1 W5) := by rw [hW5.out]; exact below_new _
          have hh5 : Hid (BBlk W5 w1.heap.size (List.replicate w false)) := by rw [hW5.out]; exact BBlk.new w1 _ _ (made_bools w)
          obtain ⟨gh, hgh⟩ : ∃ gh, Hid (gh = w1.heap.size) := ⟨_, rfl⟩
          rw [← hW5.out]
          rw [← hgh.out] at hh5 hb5 hgll hz1 ⊢
          clear hmk9
          go_wp2_with fail
          go_loopw [71] (fun v wx => FrH w (c yn) gh W5 v wx) (fun v _ => w - (intOf v).toNat)
          case atStart => exact ⟨0, _, by omega, by go_num, hh5.out, by simp, by omega, Below.refl _ _⟩
          case round =>
            rename World => wx
            obtain ⟨j, m, hj, rfl, hm, hml, hmv, hBm⟩ := hrel
            have hm' := Lib.hid hm
            have hml' := Lib.hid hml
            have hmv' := Lib.hid hmv
            have hBm' := Lib.hid hBm
            have hgY5 := Lib.hid ((hgY'.out.keptB hb5.out hgll).keptB hBm hgll)
            clear hm hml hmv hBm
            by_cases hjw : j < w
            · have y1 : wx.cell? ⟨gl, j, none⟩ = some (.int .u8 ((c yn j : Nat) : Int)) := by
                have := hgY5.out.cell (j := j) (by simp; exact hjw)
                simpa [List.getD, hjw] using this
              have d1 : wx.cell? ⟨gh, j, none⟩ = some (.bool (m.getD j false)) := hm'.out.cell (by rw [hml'.out]; exact hjw)
              have f1 : wx.frozen? ⟨gh, j, none⟩ = false := hm'.out.frozen _
              generalize m.getD j false = ov at d1
              obtain ⟨v, hv⟩ : ∃ v, Hid (v = c yn j) := ⟨_, rfl⟩
              rw [← hv.out] at y1
              have KH := Lib.hid (hold45 v wx)
              go_wp2_with fail
              refine (KH.out).mono ?_
              rintro e wz ⟨rfl, hwz⟩
              subst wz
              generalize hbv : decide (v ≠ 0) = vb at *
              have hbv' := Lib.hid hbv
              clear hbv KH
              go_wp2
              refine ⟨⟨j + 1, m.set j vb, by omega, by go_num, hm'.out.set vb, by rw [List.length_set]; exact hml'.out, fun i hi => ?_, hBm'.out.setCell (Nat.le_refl _) _⟩, by simp [intOf]; omega⟩
              rw [setB_get (by rw [hml'.out]; exact hjw)]
              by_cases e : i = j
              · rw [if_pos e, e, ← hv.out, ← hbv'.out]
              · rw [if_neg e]
                exact hmv'.out i (by omega)
            · obtain rfl : w = j := by omega
              have hl5 := Lib.hid (((hl1.out.keptW hb5.out (by omega))).keptW hBm'.out (by omega))
              have hsl2 : ∀ W, (Instr.slice 113 (.slice (some ⟨g, P, none⟩) (w + 2) C) (some (.int .i64 1)) none none).run Tryz.prog W = .ok (.slice (some ⟨g, P + 1, none⟩) (w + 1) (C - 1)) W := fun W => slice99_l W g P (w + 2) C (by have := hC.out; omega) (by omega)
              clear hjw
              go_upto_region 16 with (refine wpList_copy_own rfl _ _ 113 113 rfl 4 Tryz.underlying113 size4' g (P + 1) (w + 1) (C - 1) ⟨gh, 0, none⟩ w w rfl rfl (l0.map bv).toArray 4 hl5.out (m.map bv) (by rw [List.length_map, hml'.out]; simp [Nat.min_def]) ?q1 (by rw [List.length_map, hml'.out]; simp [hn0'.out]; omega) ?q2 ?_)
              case q1 =>
                intro i v hi
                have hi2 : i < m.length := by have := (List.getElem?_eq_some_iff.1 hi).1; simpa using this
                rw [Addr.add_lit, Nat.zero_add, hm'.out.cell hi2]
                simp [hi2] at hi
                rw [← hi]
                simp [hi2, bv, List.getD]
              case q2 =>
                intro v hv
                obtain ⟨x, _, rfl⟩ := List.mem_map.1 hv
                rfl
              have hfit : P + 1 + m.length ≤ l0.length := by rw [hml'.out, hn0'.out]; omega
              obtain ⟨W7, hW7⟩ : ∃ W7, Hid (W7 = wx.setRow g (List.take (P + 1) (List.map bv l0) ++ (List.map bv m ++ List.drop (P + 1 + (List.map bv m).length) (List.map bv l0))).toArray) := ⟨_, rfl⟩
              have hl7 : Hid (BBlk W7 g (spliceL l0 m (P + 1))) := by rw [hW7.out]; exact hl5.out.splice
              have hB7 : Hid (Below g W2 W7) := by
                rw [hW7.out]
                have h5 : Below g W2 wx := (hB1.out.trans (hb5.out.mono (by omega))).trans (hBm'.out.mono (by omega))
                exact h5.grown (row := some g) ⟨rfl, rfl, rfl, by simp [World.setRow], fun k hk hne => setRow_other wx g k _ (fun e => hne (by rw [e]))⟩ (Nat.le_trans (by have := hz2.out; have := hg.out; omega) h5.size) (fun k e => by injection e with e; omega)
              rw [← hW7.out]
              have hpx7 := (hB7.out.block W.heap.size (by have := hg.out; omega)).trans hp2.out
              have v1 : W7.cell? ⟨W.heap.size, 1, none⟩ = some (.int .i64 (w : Int)) := by rw [cell_of_row W7 _ 1 _ 26 (0, 0) hpx7]; rfl
              have v2 : W7.cell? ⟨W.heap.size, 2, none⟩ = some (.int .i64 (h : Int)) := by rw [cell_of_row W7 _ 2 _ 26 (0, 0) hpx7]; rfl
              have hlen7 : Hid ((spliceL l0 m (P + 1)).length = N) := by show _ = _; rw [splice_len hfit]; exact hn0'.out
              have hfit' := Lib.hid hfit
              clear hfit hpx7 hsl2
              go_wp2_with fail
              go_loopw [16] (fun v wx => FrX k tn sh w h c g N R W2 v wx) (fun v _ => ((w : Int) + 1 - intOf v).toNat)
              case atStart => exact ⟨-1, spliceL l0 m (P + 1), by omega, by omega, rfl, hl7.out, hlen7.out, (fun i hi => by rw [splice_get hfit'.out, if_neg (by rw [← hP'.out] at hi; simp at hi; omega)]; exact hm0'.out i (by have := hyR'.out; rw [show ((yn : Int) + 1).toNat = R from by omega]; simpa using hi)), (fun _ _ j hj => by rw [← hP'.out, splice_get hfit'.out, if_pos (by rw [hml'.out]; omega), show P + 1 + j - (P + 1) = j from by omega, hmv'.out j hj, show P + 1 + j = P + (j + 1) from by omega, hP'.out, frameAt_at (by omega)]; unfold frameB; have := hyR'.out; rw [if_pos (by omega), show (((j + 1 : Nat) : Int) - 1).toNat = j from by omega, show ((R : Int) - 1).toNat = yn from by omega]), hB7.out⟩
              case round =>
                rename World => wx
                obtain ⟨x, lx, x1, x2, rfl, hlx, hnx, hmx, hix, hBx⟩ := hrel
                have hlx' := Lib.hid hlx
                have hnx' := Lib.hid hnx
                have hmx' := Lib.hid hmx
                have hix' := Lib.hid hix
                have hBx' := Lib.hid hBx
                have hpx := (hBx.block W.heap.size (by have := hg.out; omega)).trans hp2.out
                have o1 : wx.cell? ⟨W.heap.size, 1, none⟩ = some (.int .i64 (w : Int)) := by rw [cell_of_row wx _ 1 _ 26 (0, 0) hpx]; rfl
                have o2 : wx.cell? ⟨W.heap.size, 2, none⟩ = some (.int .i64 (h : Int)) := by rw [cell_of_row wx _ 2 _ 26 (0, 0) hpx]; rfl
                clear hlx hnx hmx hix hBx hpx
                by_cases hxw : x ≤ (w : Int)
                · by_cases hx0 : 0 ≤ x
                  · by_cases hxi : x < (w : Int)
                    · have hfin : Hid (∀ i, i < R * (w + 2) + ((w : Int) - 1 + 1 + 1).toNat → lx.getD i false = frameAt k tn sh w h c i) := fun i hi => by
                        have hy := hyR'.out
                        rw [show ((w : Int) - 1 + 1 + 1).toNat = w + 1 from by omega] at hi
                        by_cases e : i < R * (w + 2) + (x + 1).toNat
                        · exact hmx'.out i e
                        · have := hix'.out (by omega) (by omega) (i - R * (w + 2) - 1) (by omega)
                          rwa [show R * (w + 2) + 1 + (i - R * (w + 2) - 1) = i from by omega] at this
                      have hix2 := hix'
                      have hw1i : IntKind.i64.wrap ((w : Int) - 1 + 1) = (w : Int) - 1 + 1 := IntWalk.i64_in _ (by omega)
                      go_wp2
                      exact ⟨⟨(w : Int), lx, by omega, by omega, rfl, hlx'.out, hnx'.out, by have := hfin.out; rwa [show (w : Int) - 1 + 1 + 1 = (w : Int) + 1 from by omega] at this, hix'.out, hBx'.out⟩, by simp [intOf]; omega⟩
                    · obtain ⟨q, hqd⟩ : ∃ q : Nat, q = (x + 1).toNat := ⟨_, rfl⟩
                      have hq : x + 1 = (q : Int) := by omega
                      have hqw : q < w + 2 := by omega
                      have hat : P + q < N := by omega
                      have hfr : Hid (frameAt k tn sh w h c (P + q) = if ringB k w h x (yn : Int) then decide (cellI w h c (ringP k w h tn sh x (yn : Int)).1 (ringP k w h tn sh x (yn : Int)).2 ≠ 0) else false) := by
                        show _ = _
                        rw [hP'.out, frameAt_at hqw, show (q : Int) - 1 = x from by omega, show (R : Int) - 1 = (yn : Int) from by have := hyR'.out; omega]
                        unfold frameB
                        rw [if_neg (by omega)]
                      have d0 : wx.cell? ⟨g, P + (x + 1).toNat, none⟩ = some (.bool (lx.getD (P + q) false)) := by rw [show (x + 1).toNat = q from by omega]; exact hlx'.out.cell (by rw [hnx'.out]; exact hat)
                      have f0 : wx.frozen? ⟨g, P + (x + 1).toNat, none⟩ = false := hlx'.out.frozen _
                      generalize lx.getD (P + q) false = ov at d0
                      obtain ⟨W6, hW6⟩ : ∃ W6, Hid (W6 = wx.setCell ⟨g, P + (x + 1).toNat, none⟩ (.bool false)) := ⟨_, rfl⟩
                      have hl6 : Hid (BBlk W6 g (lx.set (P + q) false)) := by rw [hW6.out, show (x + 1).toNat = q from by omega]; exact hlx'.out.set false
                      have hB6 : Hid (Below g W2 W6) := by rw [hW6.out]; exact hBx'.out.setCell (Nat.le_refl _) _
                      have hz6 : W.heap.size + 2 ≤ W6.heap.size := by have := hB6.out.size; have := hz2.out; omega
                      have hgW : Below W.heap.size W W6 := hB2.out.trans (hB6.out.mono (by have := hg.out; omega))
                      have hgW' := Lib.hid hgW
                      have KR := Lib.hid (ring60 (k := k) (W := w) (H := h) (tn := tn) (sh := sh) (x := x) (y := (yn : Int)) ht hok'.out (by omega) (by omega) (by omega) (by omega) (by omega) (by omega) W6)
                      have hpb6 := (hB6.out.block W.heap.size (by have := hg.out; omega)).trans hp2.out
                      have s0 : W6.cell? ⟨W.heap.size, 0, none⟩ = some (.int .u8 k) := by rw [cell_of_row W6 _ 0 _ 26 (0, 0) hpb6]; rfl
                      have s1 : W6.cell? ⟨W.heap.size, 1, none⟩ = some (.int .i64 (w : Int)) := by rw [cell_of_row W6 _ 1 _ 26 (0, 0) hpb6]; rfl
                      have s2 : W6.cell? ⟨W.heap.size, 2, none⟩ = some (.int .i64 (h : Int)) := by rw [cell_of_row W6 _ 2 _ 26 (0, 0) hpb6]; rfl
                      have s3 : W6.cell? ⟨W.heap.size, 3, none⟩ = some (.int .u8 tn) := by rw [cell_of_row W6 _ 3 _ 26 (0, 0) hpb6]; rfl
                      have s4 : W6.cell? ⟨W.heap.size, 4, none⟩ = some (.int .i64 sh) := by rw [cell_of_row W6 _ 4 _ 26 (0, 0) hpb6]; rfl
                      have hq' := Lib.hid hq
                      clear hgW hq hqd
                      go_upto_region 22 with fail
                      rw [← hW6.out]
                      clear d0 f0
                      go_wp2_with fail
                      refine (KR.out).mono ?_
                      rintro e w7 ⟨rfl, hb7⟩
                      have hb7' := Lib.hid hb7
                      have hpb7 := (hb7.block W.heap.size (by omega)).trans hpb6
                      have t1 : w7.cell? ⟨W.heap.size, 1, none⟩ = some (.int .i64 (w : Int)) := by rw [cell_of_row w7 _ 1 _ 26 (0, 0) hpb7]; rfl
                      have t2 : w7.cell? ⟨W.heap.size, 2, none⟩ = some (.int .i64 (h : Int)) := by rw [cell_of_row w7 _ 2 _ 26 (0, 0) hpb7]; rfl
                      have hz7 : W.heap.size + 2 ≤ w7.heap.size := by have := hb7.size; omega
                      have hz70 : W.heap.size < w7.heap.size := by omega
                      have hzn : ¬ W.heap.size = w7.heap.size := by omega
                      have hl7 := Lib.hid (hl6.out.kept hb7)
                      have hB7 := Lib.hid (below_then hB6.out hb7 (by have := hg.out; omega))
                      have hlen : Hid ((lx.set (P + q) false).length = N) := by show _ = _; rw [List.length_set]; exact hnx'.out
                      have hmatch : Hid (∀ v, v = frameAt k tn sh w h c (P + q) → ∀ l' : List Bool, (∀ i, l'.getD i false = if i = P + q then v else lx.getD i false) → ∀ i, i < P + (q + 1) → l'.getD i false = frameAt k tn sh w h c i) := fun v hv l' hl' i hi => by
                        rw [hl' i]
                        by_cases e : i = P + q
                        · rw [if_pos e, hv, e]
                        · rw [if_neg e]
                          exact hmx'.out i (by rw [show (x + 1).toNat = q from by have := hq'.out; omega, ← hP'.out]; omega)
                      clear hb7 KR s0 s1 s2 s3 s4 hpb6 hpb7 hz6
                      cases hrb : ringB k w h x (yn : Int) with
                      | false =>
                        rw [hrb] at hfr
                        go_wp2
                        refine ⟨⟨x + 1, lx.set (P + q) false, by omega, by omega, rfl, hl7.out.kept (below_new _), hlen.out, ?_, fun a b j hj => by rw [setB_get (by rw [hnx'.out]; exact hat), if_neg (by have := hq'.out; rw [hP'.out]; omega)]; exact hix'.out a b j hj, hB7.out.alloc (by have := hg.out; omega) _⟩, by simp [intOf]; omega⟩
                        have h9 := hmatch.out false (by rw [hfr.out]; rfl) (lx.set (P + q) false) (fun i => setB_get (by rw [hnx'.out]; exact hat))
                        rw [show (x + 1 + 1).toNat = q + 1 from by have := hq'.out; omega, ← hP'.out]
                        exact h9
                      | true =>
                        rw [hrb] at hfr
                        obtain ⟨p, hp⟩ : ∃ p : Int × Int, Hid (p = ringP k w h tn sh x (yn : Int)) := ⟨_, rfl⟩
                        rw [← hp.out] at hfr ⊢
                        obtain ⟨W8, hW8⟩ : ∃ W8, Hid (W8 = w7.alloc (.cells #[.int .i64 (p.1 - (w : Int) / 2), .int .i64 (p.2 - (h : Int) / 2)] 111)) := ⟨_, rfl⟩
                        have hb8 : Hid (Below w7.heap.size w7 W8) := by rw [hW8.out]; exact below_new _
                        have hq8 : Hid (W8.heap[w7.heap.size]? = some (.cells #[.int .i64 (p.1 - (w : Int) / 2), .int .i64 (p.2 - (h : Int) / 2)] 111 (0, 0))) := by rw [hW8.out]; exact heap_alloc_new w7 _
                        have c0 : W8.cell? ⟨w7.heap.size, 0, none⟩ = some (.int .i64 (p.1 - (w : Int) / 2)) := by rw [cell_of_row W8 _ 0 _ 111 (0, 0) hq8.out]; rfl
                        have c1 : W8.cell? ⟨w7.heap.size, 1, none⟩ = some (.int .i64 (p.2 - (h : Int) / 2)) := by rw [cell_of_row W8 _ 1 _ 111 (0, 0) hq8.out]; rfl
                        have r1 := cell_kept hb8.out t1
                        have r2 := cell_kept hb8.out t2
                        have hpb := ringP_bd (k := k) (W := w) (H := h) (tn := tn) (sh := sh) (x := x) (y := (yn : Int)) (by omega) (by omega) (by omega) (by omega) (by omega) (by omega) (by omega) (by omega) hok'.out.2.2.1
                        rw [← hp.out] at hpb
                        have KG : Hid (Calls Tryz.prog 69 #[.pointer (some ⟨fb, 0, none⟩), .int .i64 p.1, .int .i64 p.2] W8 fun e w' => ∃ r : Int, e = .returned (gotV ((cellI w h c p.1 p.2 : Nat) : Int) r) ∧ Below W8.heap.size W8 w') := by
                          refine (Fld.get (f'.out.kept (below_then (below_then hgW'.out hb7'.out hgW'.out.size) hb8.out (by omega))) p.1 p.2).mono ?_
                          rintro e w' ⟨v, r, rfl, q1, q2, q3⟩
                          refine ⟨r, ?_, q3⟩
                          by_cases hin : 0 ≤ p.1 ∧ p.1 < (w : Int) ∧ 0 ≤ p.2 ∧ p.2 < (h : Int)
                          · rw [(q1 hin).1, show cellI w h c p.1 p.2 = c p.2.toNat p.1.toNat from if_pos hin]
                          · rw [(q2 hin).1, show cellI w h c p.1 p.2 = 0 from if_neg hin]; rfl
                        obtain ⟨b1, b2, b3, b4⟩ := hpb
                        obtain ⟨p1, p2⟩ := p
                        dsimp only at *
                        obtain ⟨a1, ha1⟩ : ∃ a1, Hid (a1 = p1 - (w : Int) / 2) := ⟨_, rfl⟩
                        obtain ⟨a2, ha2⟩ : ∃ a2, Hid (a2 = p2 - (h : Int) / 2) := ⟨_, rfl⟩
                        have ea1 : a1 + (w : Int) / 2 = p1 := by rw [ha1.out]; omega
                        have ea2 : a2 + (h : Int) / 2 = p2 := by rw [ha2.out]; omega
                        have wa1 : IntKind.i64.wrap (a1 + (w : Int) / 2) = p1 := by rw [ea1]; exact IntWalk.i64_in _ (by omega)
                        have wa2 : IntKind.i64.wrap (a2 + (h : Int) / 2) = p2 := by rw [ea2]; exact IntWalk.i64_in _ (by omega)
                        rw [← ha1.out] at c0 hq8
                        rw [← ha2.out] at c1 hq8
                        go_upto_region 24 with fail
                        rw [← hW8.out]
                        go_wp2_with fail
                        refine (KG.out).mono ?_
                        rintro e w9 ⟨r, rfl, hb9⟩
                        have hbl9 := Lib.hid (below_then (below_then hb8.out hb9 hb8.out.size) (Below.refl _ _) (by have := hb8.out.size; have := hb9.size; omega))
                        have hl9 := Lib.hid (hl7.out.kept hbl9.out)
                        have hB9 := Lib.hid (below_then hB7.out hbl9.out (by have := hg.out; omega))
                        obtain ⟨v, hv⟩ : ∃ v, Hid (v = cellI w h c p1 p2) := ⟨_, rfl⟩
                        rw [← hv.out] at hfr ⊢
                        have KH := Lib.hid (hold45 v w9)
                        have g0 : w9.cell? ⟨g, P + (x + 1).toNat, none⟩ = some (.bool ((lx.set (P + q) false).getD (P + q) false)) := by rw [show (x + 1).toNat = q from by have := hq'.out; omega]; exact hl9.out.cell (by rw [hlen.out]; exact hat)
                        have gf : w9.frozen? ⟨g, P + (x + 1).toNat, none⟩ = false := hl9.out.frozen _
                        generalize (lx.set (P + q) false).getD (P + q) false = ov at g0
                        have hq9 : x + 1 < (w : Int) + 2 := by omega
                        clear hb9 c0 c1 r1 r2 t1 t2 KG ea1 ea2 wa1 wa2
                        go_wp2_with fail
                        refine (KH.out).mono ?_
                        rintro e wz ⟨rfl, hwz⟩
                        subst wz
                        generalize hbv : decide (v ≠ 0) = vb at *
                        have hbv' := Lib.hid hbv
                        clear hbv KH
                        go_wp2
                        have hl' := (hl9.out.set (j := P + q) vb)
                        have hqq : (x + 1).toNat = q := by have := hq'.out; omega
                        rw [hqq]
                        refine ⟨⟨x + 1, (lx.set (P + q) false).set (P + q) vb, by omega, by omega, rfl, hl', by rw [List.length_set]; exact hlen.out, ?_, fun a b j hj => by rw [setB_get (by rw [hlen.out]; exact hat), if_neg (by have := hq'.out; rw [hP'.out]; omega), setB_get (by rw [hnx'.out]; exact hat), if_neg (by have := hq'.out; rw [hP'.out]; omega)]; exact hix'.out a b j hj, hB9.out.setCell (Nat.le_refl _) _⟩, by simp [intOf]; omega⟩
                        have h9 := hmatch.out vb (by rw [hfr.out, ← hbv'.out]; rfl) ((lx.set (P + q) false).set (P + q) vb) (fun i => by
                          rw [setB_get (by rw [hlen.out]; exact hat)]
                          by_cases e : i = P + q
                          · rw [if_pos e, if_pos e]
                          · rw [if_neg e, if_neg e, setB_get (by rw [hnx'.out]; exact hat), if_neg e])
                        rw [show (x + 1 + 1).toNat = q + 1 from by have := hq'.out; omega, ← hP'.out]
                        exact h9

                  · obtain ⟨q, hqd⟩ : ∃ q : Nat, q = (x + 1).toNat := ⟨_, rfl⟩
                    have hq : x + 1 = (q : Int) := by omega
                    have hqw : q < w + 2 := by omega
                    have hat : P + q < N := by omega
                    have hfr : Hid (frameAt k tn sh w h c (P + q) = if ringB k w h x (yn : Int) then decide (cellI w h c (ringP k w h tn sh x (yn : Int)).1 (ringP k w h tn sh x (yn : Int)).2 ≠ 0) else false) := by
                      show _ = _
                      rw [hP'.out, frameAt_at hqw, show (q : Int) - 1 = x from by omega, show (R : Int) - 1 = (yn : Int) from by have := hyR'.out; omega]
                      unfold frameB
                      rw [if_neg (by omega)]
                    have d0 : wx.cell? ⟨g, P + (x + 1).toNat, none⟩ = some (.bool (lx.getD (P + q) false)) := by rw [show (x + 1).toNat = q from by omega]; exact hlx'.out.cell (by rw [hnx'.out]; exact hat)
                    have f0 : wx.frozen? ⟨g, P + (x + 1).toNat, none⟩ = false := hlx'.out.frozen _
                    generalize lx.getD (P + q) false = ov at d0
                    obtain ⟨W6, hW6⟩ : ∃ W6, Hid (W6 = wx.setCell ⟨g, P + (x + 1).toNat, none⟩ (.bool false)) := ⟨_, rfl⟩
                    have hl6 : Hid (BBlk W6 g (lx.set (P + q) false)) := by rw [hW6.out, show (x + 1).toNat = q from by omega]; exact hlx'.out.set false
                    have hB6 : Hid (Below g W2 W6) := by rw [hW6.out]; exact hBx'.out.setCell (Nat.le_refl _) _
                    have hz6 : W.heap.size + 2 ≤ W6.heap.size := by have := hB6.out.size; have := hz2.out; omega
                    have hgW : Below W.heap.size W W6 := hB2.out.trans (hB6.out.mono (by have := hg.out; omega))
                    have hgW' := Lib.hid hgW
                    have KR := Lib.hid (ring60 (k := k) (W := w) (H := h) (tn := tn) (sh := sh) (x := x) (y := (yn : Int)) ht hok'.out (by omega) (by omega) (by omega) (by omega) (by omega) (by omega) W6)
                    have hpb6 := (hB6.out.block W.heap.size (by have := hg.out; omega)).trans hp2.out
                    have s0 : W6.cell? ⟨W.heap.size, 0, none⟩ = some (.int .u8 k) := by rw [cell_of_row W6 _ 0 _ 26 (0, 0) hpb6]; rfl
                    have s1 : W6.cell? ⟨W.heap.size, 1, none⟩ = some (.int .i64 (w : Int)) := by rw [cell_of_row W6 _ 1 _ 26 (0, 0) hpb6]; rfl
                    have s2 : W6.cell? ⟨W.heap.size, 2, none⟩ = some (.int .i64 (h : Int)) := by rw [cell_of_row W6 _ 2 _ 26 (0, 0) hpb6]; rfl
                    have s3 : W6.cell? ⟨W.heap.size, 3, none⟩ = some (.int .u8 tn) := by rw [cell_of_row W6 _ 3 _ 26 (0, 0) hpb6]; rfl
                    have s4 : W6.cell? ⟨W.heap.size, 4, none⟩ = some (.int .i64 sh) := by rw [cell_of_row W6 _ 4 _ 26 (0, 0) hpb6]; rfl
                    have hq' := Lib.hid hq
                    clear hgW hq hqd
                    go_upto_region 22 with fail
                    rw [← hW6.out]
                    clear d0 f0
                    go_wp2_with fail
                    refine (KR.out).mono ?_
                    rintro e w7 ⟨rfl, hb7⟩
                    have hb7' := Lib.hid hb7
                    have hpb7 := (hb7.block W.heap.size (by omega)).trans hpb6
                    have t1 : w7.cell? ⟨W.heap.size, 1, none⟩ = some (.int .i64 (w : Int)) := by rw [cell_of_row w7 _ 1 _ 26 (0, 0) hpb7]; rfl
                    have t2 : w7.cell? ⟨W.heap.size, 2, none⟩ = some (.int .i64 (h : Int)) := by rw [cell_of_row w7 _ 2 _ 26 (0, 0) hpb7]; rfl
                    have hz7 : W.heap.size + 2 ≤ w7.heap.size := by have := hb7.size; omega
                    have hz70 : W.heap.size < w7.heap.size := by omega
                    have hzn : ¬ W.heap.size = w7.heap.size := by omega
                    have hl7 := Lib.hid (hl6.out.kept hb7)
                    have hB7 := Lib.hid (below_then hB6.out hb7 (by have := hg.out; omega))
                    have hlen : Hid ((lx.set (P + q) false).length = N) := by show _ = _; rw [List.length_set]; exact hnx'.out
                    have hmatch : Hid (∀ v, v = frameAt k tn sh w h c (P + q) → ∀ l' : List Bool, (∀ i, l'.getD i false = if i = P + q then v else lx.getD i false) → ∀ i, i < P + (q + 1) → l'.getD i false = frameAt k tn sh w h c i) := fun v hv l' hl' i hi => by
                      rw [hl' i]
                      by_cases e : i = P + q
                      · rw [if_pos e, hv, e]
                      · rw [if_neg e]
                        exact hmx'.out i (by rw [show (x + 1).toNat = q from by have := hq'.out; omega, ← hP'.out]; omega)
                    clear hb7 KR s0 s1 s2 s3 s4 hpb6 hpb7 hz6
                    cases hrb : ringB k w h x (yn : Int) with
                    | false =>
                      rw [hrb] at hfr
                      go_wp2
                      refine ⟨⟨x + 1, lx.set (P + q) false, by omega, by omega, rfl, hl7.out.kept (below_new _), hlen.out, ?_, fun a b j hj => by rw [setB_get (by rw [hnx'.out]; exact hat), if_neg (by have := hq'.out; rw [hP'.out]; omega)]; exact hix'.out a b j hj, hB7.out.alloc (by have := hg.out; omega) _⟩, by simp [intOf]; omega⟩
                      have h9 := hmatch.out false (by rw [hfr.out]; rfl) (lx.set (P + q) false) (fun i => setB_get (by rw [hnx'.out]; exact hat))
                      rw [show (x + 1 + 1).toNat = q + 1 from by have := hq'.out; omega, ← hP'.out]
                      exact h9
                    | true =>
                      rw [hrb] at hfr
                      obtain ⟨p, hp⟩ : ∃ p : Int × Int, Hid (p = ringP k w h tn sh x (yn : Int)) := ⟨_, rfl⟩
                      rw [← hp.out] at hfr ⊢
                      obtain ⟨W8, hW8⟩ : ∃ W8, Hid (W8 = w7.alloc (.cells #[.int .i64 (p.1 - (w : Int) / 2), .int .i64 (p.2 - (h : Int) / 2)] 111)) := ⟨_, rfl⟩
                      have hb8 : Hid (Below w7.heap.size w7 W8) := by rw [hW8.out]; exact below_new _
                      have hq8 : Hid (W8.heap[w7.heap.size]? = some (.cells #[.int .i64 (p.1 - (w : Int) / 2), .int .i64 (p.2 - (h : Int) / 2)] 111 (0, 0))) := by rw [hW8.out]; exact heap_alloc_new w7 _
                      have c0 : W8.cell? ⟨w7.heap.size, 0, none⟩ = some (.int .i64 (p.1 - (w : Int) / 2)) := by rw [cell_of_row W8 _ 0 _ 111 (0, 0) hq8.out]; rfl
                      have c1 : W8.cell? ⟨w7.heap.size, 1, none⟩ = some (.int .i64 (p.2 - (h : Int) / 2)) := by rw [cell_of_row W8 _ 1 _ 111 (0, 0) hq8.out]; rfl
                      have r1 := cell_kept hb8.out t1
                      have r2 := cell_kept hb8.out t2
                      have hpb := ringP_bd (k := k) (W := w) (H := h) (tn := tn) (sh := sh) (x := x) (y := (yn : Int)) (by omega) (by omega) (by omega) (by omega) (by omega) (by omega) (by omega) (by omega) hok'.out.2.2.1
                      rw [← hp.out] at hpb
                      have KG : Hid (Calls Tryz.prog 69 #[.pointer (some ⟨fb, 0, none⟩), .int .i64 p.1, .int .i64 p.2] W8 fun e w' => ∃ r : Int, e = .returned (gotV ((cellI w h c p.1 p.2 : Nat) : Int) r) ∧ Below W8.heap.size W8 w') := by
                        refine (Fld.get (f'.out.kept (below_then (below_then hgW'.out hb7'.out hgW'.out.size) hb8.out (by omega))) p.1 p.2).mono ?_
                        rintro e w' ⟨v, r, rfl, q1, q2, q3⟩
                        refine ⟨r, ?_, q3⟩
                        by_cases hin : 0 ≤ p.1 ∧ p.1 < (w : Int) ∧ 0 ≤ p.2 ∧ p.2 < (h : Int)
                        · rw [(q1 hin).1, show cellI w h c p.1 p.2 = c p.2.toNat p.1.toNat from if_pos hin]
                        · rw [(q2 hin).1, show cellI w h c p.1 p.2 = 0 from if_neg hin]; rfl
                      obtain ⟨b1, b2, b3, b4⟩ := hpb
                      obtain ⟨p1, p2⟩ := p
                      dsimp only at *
                      obtain ⟨a1, ha1⟩ : ∃ a1, Hid (a1 = p1 - (w : Int) / 2) := ⟨_, rfl⟩
                      obtain ⟨a2, ha2⟩ : ∃ a2, Hid (a2 = p2 - (h : Int) / 2) := ⟨_, rfl⟩
                      have ea1 : a1 + (w : Int) / 2 = p1 := by rw [ha1.out]; omega
                      have ea2 : a2 + (h : Int) / 2 = p2 := by rw [ha2.out]; omega
                      have wa1 : IntKind.i64.wrap (a1 + (w : Int) / 2) = p1 := by rw [ea1]; exact IntWalk.i64_in _ (by omega)
                      have wa2 : IntKind.i64.wrap (a2 + (h : Int) / 2) = p2 := by rw [ea2]; exact IntWalk.i64_in _ (by omega)
                      rw [← ha1.out] at c0 hq8
                      rw [← ha2.out] at c1 hq8
                      go_upto_region 24 with fail
                      rw [← hW8.out]
                      go_wp2_with fail
                      refine (KG.out).mono ?_
                      rintro e w9 ⟨r, rfl, hb9⟩
                      have hbl9 := Lib.hid (below_then (below_then hb8.out hb9 hb8.out.size) (Below.refl _ _) (by have := hb8.out.size; have := hb9.size; omega))
                      have hl9 := Lib.hid (hl7.out.kept hbl9.out)
                      have hB9 := Lib.hid (below_then hB7.out hbl9.out (by have := hg.out; omega))
                      obtain ⟨v, hv⟩ : ∃ v, Hid (v = cellI w h c p1 p2) := ⟨_, rfl⟩
                      rw [← hv.out] at hfr ⊢
                      have KH := Lib.hid (hold45 v w9)
                      have g0 : w9.cell? ⟨g, P + (x + 1).toNat, none⟩ = some (.bool ((lx.set (P + q) false).getD (P + q) false)) := by rw [show (x + 1).toNat = q from by have := hq'.out; omega]; exact hl9.out.cell (by rw [hlen.out]; exact hat)
                      have gf : w9.frozen? ⟨g, P + (x + 1).toNat, none⟩ = false := hl9.out.frozen _
                      generalize (lx.set (P + q) false).getD (P + q) false = ov at g0
                      have hq9 : x + 1 < (w : Int) + 2 := by omega
                      clear hb9 c0 c1 r1 r2 t1 t2 KG ea1 ea2 wa1 wa2
                      go_wp2_with fail
                      refine (KH.out).mono ?_
                      rintro e wz ⟨rfl, hwz⟩
                      subst wz
                      generalize hbv : decide (v ≠ 0) = vb at *
                      have hbv' := Lib.hid hbv
                      clear hbv KH
                      go_wp2
                      have hl' := (hl9.out.set (j := P + q) vb)
                      have hqq : (x + 1).toNat = q := by have := hq'.out; omega
                      rw [hqq]
                      refine ⟨⟨x + 1, (lx.set (P + q) false).set (P + q) vb, by omega, by omega, rfl, hl', by rw [List.length_set]; exact hlen.out, ?_, fun a b j hj => by rw [setB_get (by rw [hlen.out]; exact hat), if_neg (by have := hq'.out; rw [hP'.out]; omega), setB_get (by rw [hnx'.out]; exact hat), if_neg (by have := hq'.out; rw [hP'.out]; omega)]; exact hix'.out a b j hj, hB9.out.setCell (Nat.le_refl _) _⟩, by simp [intOf]; omega⟩
                      have h9 := hmatch.out vb (by rw [hfr.out, ← hbv'.out]; rfl) ((lx.set (P + q) false).set (P + q) vb) (fun i => by
                        rw [setB_get (by rw [hlen.out]; exact hat)]
                        by_cases e : i = P + q
                        · rw [if_pos e, if_pos e]
                        · rw [if_neg e, if_neg e, setB_get (by rw [hnx'.out]; exact hat), if_neg e])
                      rw [show (x + 1 + 1).toNat = q + 1 from by have := hq'.out; omega, ← hP'.out]
                      exact h9

                · have hxe : x = (w : Int) + 1 := by omega
                  have hfin : Hid (∀ i, i < ((yn : Int) + 1 + 1).toNat * (w + 2) → lx.getD i false = frameAt k tn sh w h c i) := fun i hi => by
                    have hy := hyR'.out
                    refine hmx'.out i ?_
                    rw [show ((yn : Int) + 1 + 1).toNat = R + 1 from by omega, Nat.add_mul, Nat.one_mul] at hi
                    rw [show (x + 1).toNat = w + 2 from by omega]
                    exact hi
                  clear hxe
                  go_wp2
                  exact ⟨⟨(yn : Int) + 1, lx, by omega, by omega, rfl, hlx'.out, hnx'.out, hfin.out, hBx'.out⟩, by simp [intOf]; omega⟩


        · go_wp2_with fail
          go_loopw [16] (fun v wx => FrX k tn sh w h c g N R W2 v wx) (fun v _ => ((w : Int) + 1 - intOf v).toNat)
          case atStart => exact ⟨-1, l0, by omega, by omega, rfl, hl0'.out, hn0'.out, fun i hi => hm0'.out i (by have := hyR'.out; rw [show (y + 1).toNat = R from by omega]; simpa using hi), fun hR _ => by have := hyR'.out; omega, hB0'.out⟩
          case round =>
            rename World => wx
            obtain ⟨x, lx, x1, x2, rfl, hlx, hnx, hmx, hix, hBx⟩ := hrel
            have hlx' := Lib.hid hlx
            have hnx' := Lib.hid hnx
            have hmx' := Lib.hid hmx
            have hix' := Lib.hid hix
            have hBx' := Lib.hid hBx
            have hpx := (hBx.block W.heap.size (by have := hg.out; omega)).trans hp2.out
            have o1 : wx.cell? ⟨W.heap.size, 1, none⟩ = some (.int .i64 (w : Int)) := by rw [cell_of_row wx _ 1 _ 26 (0, 0) hpx]; rfl
            have o2 : wx.cell? ⟨W.heap.size, 2, none⟩ = some (.int .i64 (h : Int)) := by rw [cell_of_row wx _ 2 _ 26 (0, 0) hpx]; rfl
            clear hlx hnx hmx hix hBx hpx
            by_cases hxw : x ≤ (w : Int)
            · obtain ⟨q, hqd⟩ : ∃ q : Nat, q = (x + 1).toNat := ⟨_, rfl⟩
              have hq : x + 1 = (q : Int) := by omega
              have hqw : q < w + 2 := by omega
              have hat : P + q < N := by omega
              have hfr : Hid (frameAt k tn sh w h c (P + q) = if ringB k w h x y then decide (cellI w h c (ringP k w h tn sh x y).1 (ringP k w h tn sh x y).2 ≠ 0) else false) := by
                show _ = _
                rw [hP'.out, frameAt_at hqw, show (q : Int) - 1 = x from by omega, show (R : Int) - 1 = y from by have := hyR'.out; omega]
                unfold frameB
                rw [if_neg (by omega)]
              have d0 : wx.cell? ⟨g, P + (x + 1).toNat, none⟩ = some (.bool (lx.getD (P + q) false)) := by rw [show (x + 1).toNat = q from by omega]; exact hlx'.out.cell (by rw [hnx'.out]; exact hat)
              have f0 : wx.frozen? ⟨g, P + (x + 1).toNat, none⟩ = false := hlx'.out.frozen _
              generalize lx.getD (P + q) false = ov at d0
              obtain ⟨W6, hW6⟩ : ∃ W6, Hid (W6 = wx.setCell ⟨g, P + (x + 1).toNat, none⟩ (.bool false)) := ⟨_, rfl⟩
              have hl6 : Hid (BBlk W6 g (lx.set (P + q) false)) := by rw [hW6.out, show (x + 1).toNat = q from by omega]; exact hlx'.out.set false
              have hB6 : Hid (Below g W2 W6) := by rw [hW6.out]; exact hBx'.out.setCell (Nat.le_refl _) _
              have hz6 : W.heap.size + 2 ≤ W6.heap.size := by have := hB6.out.size; have := hz2.out; omega
              have hgW : Below W.heap.size W W6 := hB2.out.trans (hB6.out.mono (by have := hg.out; omega))
              have hgW' := Lib.hid hgW
              have KR := Lib.hid (ring60 (k := k) (W := w) (H := h) (tn := tn) (sh := sh) (x := x) (y := y) ht hok'.out (by omega) (by omega) (by omega) (by omega) (by omega) (by omega) W6)
              have hpb6 := (hB6.out.block W.heap.size (by have := hg.out; omega)).trans hp2.out
              have s0 : W6.cell? ⟨W.heap.size, 0, none⟩ = some (.int .u8 k) := by rw [cell_of_row W6 _ 0 _ 26 (0, 0) hpb6]; rfl
              have s1 : W6.cell? ⟨W.heap.size, 1, none⟩ = some (.int .i64 (w : Int)) := by rw [cell_of_row W6 _ 1 _ 26 (0, 0) hpb6]; rfl
              have s2 : W6.cell? ⟨W.heap.size, 2, none⟩ = some (.int .i64 (h : Int)) := by rw [cell_of_row W6 _ 2 _ 26 (0, 0) hpb6]; rfl
              have s3 : W6.cell? ⟨W.heap.size, 3, none⟩ = some (.int .u8 tn) := by rw [cell_of_row W6 _ 3 _ 26 (0, 0) hpb6]; rfl
              have s4 : W6.cell? ⟨W.heap.size, 4, none⟩ = some (.int .i64 sh) := by rw [cell_of_row W6 _ 4 _ 26 (0, 0) hpb6]; rfl
              have hq' := Lib.hid hq
              clear hgW hq hqd
              go_upto_region 22 with fail
              rw [← hW6.out]
              clear d0 f0
              go_wp2_with fail
              refine (KR.out).mono ?_
              rintro e w7 ⟨rfl, hb7⟩
              have hb7' := Lib.hid hb7
              have hpb7 := (hb7.block W.heap.size (by omega)).trans hpb6
              have t1 : w7.cell? ⟨W.heap.size, 1, none⟩ = some (.int .i64 (w : Int)) := by rw [cell_of_row w7 _ 1 _ 26 (0, 0) hpb7]; rfl
              have t2 : w7.cell? ⟨W.heap.size, 2, none⟩ = some (.int .i64 (h : Int)) := by rw [cell_of_row w7 _ 2 _ 26 (0, 0) hpb7]; rfl
              have hz7 : W.heap.size + 2 ≤ w7.heap.size := by have := hb7.size; omega
              have hz70 : W.heap.size < w7.heap.size := by omega
              have hzn : ¬ W.heap.size = w7.heap.size := by omega
              have hl7 := Lib.hid (hl6.out.kept hb7)
              have hB7 := Lib.hid (below_then hB6.out hb7 (by have := hg.out; omega))
              have hlen : Hid ((lx.set (P + q) false).length = N) := by show _ = _; rw [List.length_set]; exact hnx'.out
              have hmatch : Hid (∀ v, v = frameAt k tn sh w h c (P + q) → ∀ l' : List Bool, (∀ i, l'.getD i false = if i = P + q then v else lx.getD i false) → ∀ i, i < P + (q + 1) → l'.getD i false = frameAt k tn sh w h c i) := fun v hv l' hl' i hi => by
                rw [hl' i]
                by_cases e : i = P + q
                · rw [if_pos e, hv, e]
                · rw [if_neg e]
                  exact hmx'.out i (by rw [show (x + 1).toNat = q from by have := hq'.out; omega, ← hP'.out]; omega)
              clear hb7 KR s0 s1 s2 s3 s4 hpb6 hpb7 hz6
              cases hrb : ringB k w h x y with
              | false =>
                rw [hrb] at hfr
                go_wp2
                refine ⟨⟨x + 1, lx.set (P + q) false, by omega, by omega, rfl, hl7.out.kept (below_new _), hlen.out, ?_, fun hR0 hR => by have := hyR'.out; omega, hB7.out.alloc (by have := hg.out; omega) _⟩, by simp [intOf]; omega⟩
                have h9 := hmatch.out false (by rw [hfr.out]; rfl) (lx.set (P + q) false) (fun i => setB_get (by rw [hnx'.out]; exact hat))
                rw [show (x + 1 + 1).toNat = q + 1 from by have := hq'.out; omega, ← hP'.out]
                exact h9
              | true =>
                rw [hrb] at hfr
                obtain ⟨p, hp⟩ : ∃ p : Int × Int, Hid (p = ringP k w h tn sh x y) := ⟨_, rfl⟩
                rw [← hp.out] at hfr ⊢
                obtain ⟨W8, hW8⟩ : ∃ W8, Hid (W8 = w7.alloc (.cells #[.int .i64 (p.1 - (w : Int) / 2), .int .i64 (p.2 - (h : Int) / 2)] 111)) := ⟨_, rfl⟩
                have hb8 : Hid (Below w7.heap.size w7 W8) := by rw [hW8.out]; exact below_new _
                have hq8 : Hid (W8.heap[w7.heap.size]? = some (.cells #[.int .i64 (p.1 - (w : Int) / 2), .int .i64 (p.2 - (h : Int) / 2)] 111 (0, 0))) := by rw [hW8.out]; exact heap_alloc_new w7 _
                have c0 : W8.cell? ⟨w7.heap.size, 0, none⟩ = some (.int .i64 (p.1 - (w : Int) / 2)) := by rw [cell_of_row W8 _ 0 _ 111 (0, 0) hq8.out]; rfl
                have c1 : W8.cell? ⟨w7.heap.size, 1, none⟩ = some (.int .i64 (p.2 - (h : Int) / 2)) := by rw [cell_of_row W8 _ 1 _ 111 (0, 0) hq8.out]; rfl
                have r1 := cell_kept hb8.out t1
                have r2 := cell_kept hb8.out t2
                have hpb := ringP_bd (k := k) (W := w) (H := h) (tn := tn) (sh := sh) (x := x) (y := y) (by omega) (by omega) (by omega) (by omega) (by omega) (by omega) (by omega) (by omega) hok'.out.2.2.1
                rw [← hp.out] at hpb
                have KG : Hid (Calls Tryz.prog 69 #[.pointer (some ⟨fb, 0, none⟩), .int .i64 p.1, .int .i64 p.2] W8 fun e w' => ∃ r : Int, e = .returned (gotV ((cellI w h c p.1 p.2 : Nat) : Int) r) ∧ Below W8.heap.size W8 w') := by
                  refine (Fld.get (f'.out.kept (below_then (below_then hgW'.out hb7'.out hgW'.out.size) hb8.out (by omega))) p.1 p.2).mono ?_
                  rintro e w' ⟨v, r, rfl, q1, q2, q3⟩
                  refine ⟨r, ?_, q3⟩
                  by_cases hin : 0 ≤ p.1 ∧ p.1 < (w : Int) ∧ 0 ≤ p.2 ∧ p.2 < (h : Int)
                  · rw [(q1 hin).1, show cellI w h c p.1 p.2 = c p.2.toNat p.1.toNat from if_pos hin]
                  · rw [(q2 hin).1, show cellI w h c p.1 p.2 = 0 from if_neg hin]; rfl
                obtain ⟨b1, b2, b3, b4⟩ := hpb
                obtain ⟨p1, p2⟩ := p
                dsimp only at *
                obtain ⟨a1, ha1⟩ : ∃ a1, Hid (a1 = p1 - (w : Int) / 2) := ⟨_, rfl⟩
                obtain ⟨a2, ha2⟩ : ∃ a2, Hid (a2 = p2 - (h : Int) / 2) := ⟨_, rfl⟩
                have ea1 : a1 + (w : Int) / 2 = p1 := by rw [ha1.out]; omega
                have ea2 : a2 + (h : Int) / 2 = p2 := by rw [ha2.out]; omega
                have wa1 : IntKind.i64.wrap (a1 + (w : Int) / 2) = p1 := by rw [ea1]; exact IntWalk.i64_in _ (by omega)
                have wa2 : IntKind.i64.wrap (a2 + (h : Int) / 2) = p2 := by rw [ea2]; exact IntWalk.i64_in _ (by omega)
                rw [← ha1.out] at c0 hq8
                rw [← ha2.out] at c1 hq8
                go_upto_region 24 with fail
                rw [← hW8.out]
                go_wp2_with fail
                refine (KG.out).mono ?_
                rintro e w9 ⟨r, rfl, hb9⟩
                have hbl9 := Lib.hid (below_then (below_then hb8.out hb9 hb8.out.size) (Below.refl _ _) (by have := hb8.out.size; have := hb9.size; omega))
                have hl9 := Lib.hid (hl7.out.kept hbl9.out)
                have hB9 := Lib.hid (below_then hB7.out hbl9.out (by have := hg.out; omega))
                obtain ⟨v, hv⟩ : ∃ v, Hid (v = cellI w h c p1 p2) := ⟨_, rfl⟩
                rw [← hv.out] at hfr ⊢
                have KH := Lib.hid (hold45 v w9)
                have g0 : w9.cell? ⟨g, P + (x + 1).toNat, none⟩ = some (.bool ((lx.set (P + q) false).getD (P + q) false)) := by rw [show (x + 1).toNat = q from by have := hq'.out; omega]; exact hl9.out.cell (by rw [hlen.out]; exact hat)
                have gf : w9.frozen? ⟨g, P + (x + 1).toNat, none⟩ = false := hl9.out.frozen _
                generalize (lx.set (P + q) false).getD (P + q) false = ov at g0
                have hq9 : x + 1 < (w : Int) + 2 := by omega
                clear hb9 c0 c1 r1 r2 t1 t2 KG ea1 ea2 wa1 wa2
                go_wp2_with fail
                refine (KH.out).mono ?_
                rintro e wz ⟨rfl, hwz⟩
                subst wz
                generalize hbv : decide (v ≠ 0) = vb at *
                have hbv' := Lib.hid hbv
                clear hbv KH
                go_wp2
                have hl' := (hl9.out.set (j := P + q) vb)
                have hqq : (x + 1).toNat = q := by have := hq'.out; omega
                rw [hqq]
                refine ⟨⟨x + 1, (lx.set (P + q) false).set (P + q) vb, by omega, by omega, rfl, hl', by rw [List.length_set]; exact hlen.out, ?_, fun hR0 hR => by have := hyR'.out; omega, hB9.out.setCell (Nat.le_refl _) _⟩, by simp [intOf]; omega⟩
                have h9 := hmatch.out vb (by rw [hfr.out, ← hbv'.out]; rfl) ((lx.set (P + q) false).set (P + q) vb) (fun i => by
                  rw [setB_get (by rw [hlen.out]; exact hat)]
                  by_cases e : i = P + q
                  · rw [if_pos e, if_pos e]
                  · rw [if_neg e, if_neg e, setB_get (by rw [hnx'.out]; exact hat), if_neg e])
                rw [show (x + 1 + 1).toNat = q + 1 from by have := hq'.out; omega, ← hP'.out]
                exact h9

            · have hxe : x = (w : Int) + 1 := by omega
              have hfin : Hid (∀ i, i < (y + 1 + 1).toNat * (w + 2) → lx.getD i false = frameAt k tn sh w h c i) := fun i hi => by
                have hy := hyR'.out
                refine hmx'.out i ?_
                rw [show (y + 1 + 1).toNat = R + 1 from by omega, Nat.add_mul, Nat.one_mul] at hi
                rw [show (x + 1).toNat = w + 2 from by omega]
                exact hi
              clear hxe
              go_wp2
              exact ⟨⟨y + 1, lx, by omega, by omega, rfl, hlx'.out, hnx'.out, hfin.out, hBx'.out⟩, by simp [intOf]; omega⟩

      · go_wp2_with fail
        go_loopw [16] (fun v wx => FrX k tn sh w h c g N R W2 v wx) (fun v _ => ((w : Int) + 1 - intOf v).toNat)
        case atStart => exact ⟨-1, l0, by omega, by omega, rfl, hl0'.out, hn0'.out, fun i hi => hm0'.out i (by have := hyR'.out; rw [show (y + 1).toNat = R from by omega]; simpa using hi), fun hR _ => by have := hyR'.out; omega, hB0'.out⟩
        case round =>
          rename World => wx
          obtain ⟨x, lx, x1, x2, rfl, hlx, hnx, hmx, hix, hBx⟩ := hrel
          have hlx' := Lib.hid hlx
          have hnx' := Lib.hid hnx
          have hmx' := Lib.hid hmx
          have hix' := Lib.hid hix
          have hBx' := Lib.hid hBx
          have hpx := (hBx.block W.heap.size (by have := hg.out; omega)).trans hp2.out
          have o1 : wx.cell? ⟨W.heap.size, 1, none⟩ = some (.int .i64 (w : Int)) := by rw [cell_of_row wx _ 1 _ 26 (0, 0) hpx]; rfl
          have o2 : wx.cell? ⟨W.heap.size, 2, none⟩ = some (.int .i64 (h : Int)) := by rw [cell_of_row wx _ 2 _ 26 (0, 0) hpx]; rfl
          clear hlx hnx hmx hix hBx hpx
          by_cases hxw : x ≤ (w : Int)
          · obtain ⟨q, hqd⟩ : ∃ q : Nat, q = (x + 1).toNat := ⟨_, rfl⟩
            have hq : x + 1 = (q : Int) := by omega
            have hqw : q < w + 2 := by omega
            have hat : P + q < N := by omega
            have hfr : Hid (frameAt k tn sh w h c (P + q) = if ringB k w h x y then decide (cellI w h c (ringP k w h tn sh x y).1 (ringP k w h tn sh x y).2 ≠ 0) else false) := by
              show _ = _
              rw [hP'.out, frameAt_at hqw, show (q : Int) - 1 = x from by omega, show (R : Int) - 1 = y from by have := hyR'.out; omega]
              unfold frameB
              rw [if_neg (by omega)]
            have d0 : wx.cell? ⟨g, P + (x + 1).toNat, none⟩ = some (.bool (lx.getD (P + q) false)) := by rw [show (x + 1).toNat = q from by omega]; exact hlx'.out.cell (by rw [hnx'.out]; exact hat)
            have f0 : wx.frozen? ⟨g, P + (x + 1).toNat, none⟩ = false := hlx'.out.frozen _
            generalize lx.getD (P + q) false = ov at d0
            obtain ⟨W6, hW6⟩ : ∃ W6, Hid (W6 = wx.setCell ⟨g, P + (x + 1).toNat, none⟩ (.bool false)) := ⟨_, rfl⟩
            have hl6 : Hid (BBlk W6 g (lx.set (P + q) false)) := by rw [hW6.out, show (x + 1).toNat = q from by omega]; exact hlx'.out.set false
            have hB6 : Hid (Below g W2 W6) := by rw [hW6.out]; exact hBx'.out.setCell (Nat.le_refl _) _
            have hz6 : W.heap.size + 2 ≤ W6.heap.size := by have := hB6.out.size; have := hz2.out; omega
            have hgW : Below W.heap.size W W6 := hB2.out.trans (hB6.out.mono (by have := hg.out; omega))
            have hgW' := Lib.hid hgW
            have KR := Lib.hid (ring60 (k := k) (W := w) (H := h) (tn := tn) (sh := sh) (x := x) (y := y) ht hok'.out (by omega) (by omega) (by omega) (by omega) (by omega) (by omega) W6)
            have hpb6 := (hB6.out.block W.heap.size (by have := hg.out; omega)).trans hp2.out
            have s0 : W6.cell? ⟨W.heap.size, 0, none⟩ = some (.int .u8 k) := by rw [cell_of_row W6 _ 0 _ 26 (0, 0) hpb6]; rfl
            have s1 : W6.cell? ⟨W.heap.size, 1, none⟩ = some (.int .i64 (w : Int)) := by rw [cell_of_row W6 _ 1 _ 26 (0, 0) hpb6]; rfl
            have s2 : W6.cell? ⟨W.heap.size, 2, none⟩ = some (.int .i64 (h : Int)) := by rw [cell_of_row W6 _ 2 _ 26 (0, 0) hpb6]; rfl
            have s3 : W6.cell? ⟨W.heap.size, 3, none⟩ = some (.int .u8 tn) := by rw [cell_of_row W6 _ 3 _ 26 (0, 0) hpb6]; rfl
            have s4 : W6.cell? ⟨W.heap.size, 4, none⟩ = some (.int .i64 sh) := by rw [cell_of_row W6 _ 4 _ 26 (0, 0) hpb6]; rfl
            have hq' := Lib.hid hq
            clear hgW hq hqd
            go_upto_region 22 with fail
            rw [← hW6.out]
            clear d0 f0
            go_wp2_with fail
            refine (KR.out).mono ?_
            rintro e w7 ⟨rfl, hb7⟩
            have hb7' := Lib.hid hb7
            have hpb7 := (hb7.block W.heap.size (by omega)).trans hpb6
            have t1 : w7.cell? ⟨W.heap.size, 1, none⟩ = some (.int .i64 (w : Int)) := by rw [cell_of_row w7 _ 1 _ 26 (0, 0) hpb7]; rfl
            have t2 : w7.cell? ⟨W.heap.size, 2, none⟩ = some (.int .i64 (h : Int)) := by rw [cell_of_row w7 _ 2 _ 26 (0, 0) hpb7]; rfl
            have hz7 : W.heap.size + 2 ≤ w7.heap.size := by have := hb7.size; omega
            have hz70 : W.heap.size < w7.heap.size := by omega
            have hzn : ¬ W.heap.size = w7.heap.size := by omega
            have hl7 := Lib.hid (hl6.out.kept hb7)
            have hB7 := Lib.hid (below_then hB6.out hb7 (by have := hg.out; omega))
            have hlen : Hid ((lx.set (P + q) false).length = N) := by show _ = _; rw [List.length_set]; exact hnx'.out
            have hmatch : Hid (∀ v, v = frameAt k tn sh w h c (P + q) → ∀ l' : List Bool, (∀ i, l'.getD i false = if i = P + q then v else lx.getD i false) → ∀ i, i < P + (q + 1) → l'.getD i false = frameAt k tn sh w h c i) := fun v hv l' hl' i hi => by
              rw [hl' i]
              by_cases e : i = P + q
              · rw [if_pos e, hv, e]
              · rw [if_neg e]
                exact hmx'.out i (by rw [show (x + 1).toNat = q from by have := hq'.out; omega, ← hP'.out]; omega)
            clear hb7 KR s0 s1 s2 s3 s4 hpb6 hpb7 hz6
            cases hrb : ringB k w h x y with
            | false =>
              rw [hrb] at hfr
              go_wp2
              refine ⟨⟨x + 1, lx.set (P + q) false, by omega, by omega, rfl, hl7.out.kept (below_new _), hlen.out, ?_, fun hR0 hR => by have := hyR'.out; omega, hB7.out.alloc (by have := hg.out; omega) _⟩, by simp [intOf]; omega⟩
              have h9 := hmatch.out false (by rw [hfr.out]; rfl) (lx.set (P + q) false) (fun i => setB_get (by rw [hnx'.out]; exact hat))
              rw [show (x + 1 + 1).toNat = q + 1 from by have := hq'.out; omega, ← hP'.out]
              exact h9
            | true =>
              rw [hrb] at hfr
              obtain ⟨p, hp⟩ : ∃ p : Int × Int, Hid (p = ringP k w h tn sh x y) := ⟨_, rfl⟩
              rw [← hp.out] at hfr ⊢
              obtain ⟨W8, hW8⟩ : ∃ W8, Hid (W8 = w7.alloc (.cells #[.int .i64 (p.1 - (w : Int) / 2), .int .i64 (p.2 - (h : Int) / 2)] 111)) := ⟨_, rfl⟩
              have hb8 : Hid (Below w7.heap.size w7 W8) := by rw [hW8.out]; exact below_new _
              have hq8 : Hid (W8.heap[w7.heap.size]? = some (.cells #[.int .i64 (p.1 - (w : Int) / 2), .int .i64 (p.2 - (h : Int) / 2)] 111 (0, 0))) := by rw [hW8.out]; exact heap_alloc_new w7 _
              have c0 : W8.cell? ⟨w7.heap.size, 0, none⟩ = some (.int .i64 (p.1 - (w : Int) / 2)) := by rw [cell_of_row W8 _ 0 _ 111 (0, 0) hq8.out]; rfl
              have c1 : W8.cell? ⟨w7.heap.size, 1, none⟩ = some (.int .i64 (p.2 - (h : Int) / 2)) := by rw [cell_of_row W8 _ 1 _ 111 (0, 0) hq8.out]; rfl
              have r1 := cell_kept hb8.out t1
              have r2 := cell_kept hb8.out t2
              have hpb := ringP_bd (k := k) (W := w) (H := h) (tn := tn) (sh := sh) (x := x) (y := y) (by omega) (by omega) (by omega) (by omega) (by omega) (by omega) (by omega) (by omega) hok'.out.2.2.1
              rw [← hp.out] at hpb
              have KG : Hid (Calls Tryz.prog 69 #[.pointer (some ⟨fb, 0, none⟩), .int .i64 p.1, .int .i64 p.2] W8 fun e w' => ∃ r : Int, e = .returned (gotV ((cellI w h c p.1 p.2 : Nat) : Int) r) ∧ Below W8.heap.size W8 w') := by
                refine (Fld.get (f'.out.kept (below_then (below_then hgW'.out hb7'.out hgW'.out.size) hb8.out (by omega))) p.1 p.2).mono ?_
                rintro e w' ⟨v, r, rfl, q1, q2, q3⟩
                refine ⟨r, ?_, q3⟩
                by_cases hin : 0 ≤ p.1 ∧ p.1 < (w : Int) ∧ 0 ≤ p.2 ∧ p.2 < (h : Int)
                · rw [(q1 hin).1, show cellI w h c p.1 p.2 = c p.2.toNat p.1.toNat from if_pos hin]
                · rw [(q2 hin).1, show cellI w h c p.1 p.2 = 0 from if_neg hin]; rfl
              obtain ⟨b1, b2, b3, b4⟩ := hpb
              obtain ⟨p1, p2⟩ := p
              dsimp only at *
              obtain ⟨a1, ha1⟩ : ∃ a1, Hid (a1 = p1 - (w : Int) / 2) := ⟨_, rfl⟩
              obtain ⟨a2, ha2⟩ : ∃ a2, Hid (a2 = p2 - (h : Int) / 2) := ⟨_, rfl⟩
              have ea1 : a1 + (w : Int) / 2 = p1 := by rw [ha1.out]; omega
              have ea2 : a2 + (h : Int) / 2 = p2 := by rw [ha2.out]; omega
              have wa1 : IntKind.i64.wrap (a1 + (w : Int) / 2) = p1 := by rw [ea1]; exact IntWalk.i64_in _ (by omega)
              have wa2 : IntKind.i64.wrap (a2 + (h : Int) / 2) = p2 := by rw [ea2]; exact IntWalk.i64_in _ (by omega)
              rw [← ha1.out] at c0 hq8
              rw [← ha2.out] at c1 hq8
              go_upto_region 24 with fail
              rw [← hW8.out]
              go_wp2_with fail
              refine (KG.out).mono ?_
              rintro e w9 ⟨r, rfl, hb9⟩
              have hbl9 := Lib.hid (below_then (below_then hb8.out hb9 hb8.out.size) (Below.refl _ _) (by have := hb8.out.size; have := hb9.size; omega))
              have hl9 := Lib.hid (hl7.out.kept hbl9.out)
              have hB9 := Lib.hid (below_then hB7.out hbl9.out (by have := hg.out; omega))
              obtain ⟨v, hv⟩ : ∃ v, Hid (v = cellI w h c p1 p2) := ⟨_, rfl⟩
              rw [← hv.out] at hfr ⊢
              have KH := Lib.hid (hold45 v w9)
              have g0 : w9.cell? ⟨g, P + (x + 1).toNat, none⟩ = some (.bool ((lx.set (P + q) false).getD (P + q) false)) := by rw [show (x + 1).toNat = q from by have := hq'.out; omega]; exact hl9.out.cell (by rw [hlen.out]; exact hat)
              have gf : w9.frozen? ⟨g, P + (x + 1).toNat, none⟩ = false := hl9.out.frozen _
              generalize (lx.set (P + q) false).getD (P + q) false = ov at g0
              have hq9 : x + 1 < (w : Int) + 2 := by omega
              clear hb9 c0 c1 r1 r2 t1 t2 KG ea1 ea2 wa1 wa2
              go_wp2_with fail
              refine (KH.out).mono ?_
              rintro e wz ⟨rfl, hwz⟩
              subst wz
              generalize hbv : decide (v ≠ 0) = vb at *
              have hbv' := Lib.hid hbv
              clear hbv KH
              go_wp2
              have hl' := (hl9.out.set (j := P + q) vb)
              have hqq : (x + 1).toNat = q := by have := hq'.out; omega
              rw [hqq]
              refine ⟨⟨x + 1, (lx.set (P + q) false).set (P + q) vb, by omega, by omega, rfl, hl', by rw [List.length_set]; exact hlen.out, ?_, fun hR0 hR => by have := hyR'.out; omega, hB9.out.setCell (Nat.le_refl _) _⟩, by simp [intOf]; omega⟩
              have h9 := hmatch.out vb (by rw [hfr.out, ← hbv'.out]; rfl) ((lx.set (P + q) false).set (P + q) vb) (fun i => by
                rw [setB_get (by rw [hlen.out]; exact hat)]
                by_cases e : i = P + q
                · rw [if_pos e, if_pos e]
                · rw [if_neg e, if_neg e, setB_get (by rw [hnx'.out]; exact hat), if_neg e])
              rw [show (x + 1 + 1).toNat = q + 1 from by have := hq'.out; omega, ← hP'.out]
              exact h9

          · have hxe : x = (w : Int) + 1 := by omega
            have hfin : Hid (∀ i, i < (y + 1 + 1).toNat * (w + 2) → lx.getD i false = frameAt k tn sh w h c i) := fun i hi => by
              have hy := hyR'.out
              refine hmx'.out i ?_
              rw [show (y + 1 + 1).toNat = R + 1 from by omega, Nat.add_mul, Nat.one_mul] at hi
              rw [show (x + 1).toNat = w + 2 from by omega]
              exact hi
            clear hxe
            go_wp2
            exact ⟨⟨y + 1, lx, by omega, by omega, rfl, hlx'.out, hnx'.out, hfin.out, hBx'.out⟩, by simp [intOf]; omega⟩
    · have hye : y = (h : Int) + 1 := by omega
      have hLl : Hid ((frameL k tn sh w h c).length = N) := by show _ = _; unfold frameL; rw [List.length_map, List.length_range]; exact hN'.out.symm
      have hLe : Hid (l0 = frameL k tn sh w h c) := by
        show _ = _
        refine extB (by rw [hn0'.out, hLl.out]) fun i q1 => ?_
        rw [hn0'.out] at q1
        rw [frameL_get _ _ _ _ _ _ (by rw [← hN'.out]; exact q1)]
        exact hm0'.out i (by rw [hye, show ((h : Int) + 1 + 1).toNat = h + 2 from by omega, Nat.mul_comm, ← hN'.out]; exact q1)
      clear hye hl0 hn0 hm0 hB0 hpb
      go_wp2
      go_ret
      exact ⟨g, by rw [hLl.out]; rfl, by have := hg.out; omega, by rw [← hLe.out]; exact hl0'.out, hB2.out.trans (hB0'.out.mono (by have := hg.out; omega))⟩
end Go.Proofs.YtcbhbojplcddkaaGreatDoor
