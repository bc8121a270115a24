import Derived.Test.YtjomgjlicfoehaaHoodF
namespace Go.Proofs.Ytjomgjlicfoehaa
open Go.RowKit
set_option linter.unusedSimpArgs false
set_option linter.unusedVariables false

def RLx (n : Nat) (W : World) (i : Value) (wr : World) : Prop := ∃ k : Nat, k ≤ n ∧ i = .int .i64 (k : Int) ∧ wr = W
def RL1 (w : World) (ba bb : Nat) (vw va vb : Value) (L : List (Int × Int)) (i : Value) (wr : World) : Prop := ∃ k : Nat, k ≤ L.length ∧ i = .int .i64 (k : Int) ∧ R12 w ba bb vw va vb L k 0 wr
def RL2 (w : World) (ba bb : Nat) (vw va vb : Value) (L : List (Int × Int)) (i : Value) (wr : World) : Prop := ∃ k : Nat, k ≤ L.length ∧ i = .int .i64 (k : Int) ∧ R12 w ba bb vw va vb L L.length k wr
def RL3 (w : World) (S ba bb : Nat) (vw va vb : Value) (L A B : List (Int × Int)) (vc i : Value) (wr : World) : Prop :=
  ∃ k : Nat, k ≤ 12 ∧ i = .int .i64 (k : Int) ∧ RC w S ba vw va vb vc L A B (A ++ extK 90 k) wr ∧ wr.ownsRow bb 30 2 vb B.length (ptCells B)
def RL4 (w : World) (S ba bb : Nat) (vw va vb vc : Value) (L A B C : List (Int × Int)) (vd i : Value) (wr : World) : Prop :=
  ∃ k : Nat, k ≤ 12 ∧ i = .int .i64 (k : Int) ∧ RC w S bb vw vb va vd L B A (B ++ extK 110 k) wr ∧ wr.ownsRow ba 30 2 vc C.length (ptCells C)

set_option maxRecDepth 100000 in
set_option maxHeartbeats 16000000 in
theorem hoodOffsets_walk (h : Int) (w : World) : Calls Try.prog 3 #[.int .u8 h] w fun e w' => e = .returned (.bool true) ∧ Below w.heap.size w w' := by
  have hn8 := offs_len h
  have K1 := Lib.hid (fun W => roffsets_any h W)
  have K2 := Lib.hid (fun W => rsize_any h W)
  have K3 := Lib.hid (fun W => size_any h W)
  have K4 := Lib.hid (fun W => offsets_any h W)
  generalize hoodErr h = er at *
  generalize offs h = L at *
  have hl1000 : L.length ≤ 1000 := by omega
  go_enter Try.func3, Try.ntmps3
  go_wp2_with fail
  refine (K1.out _).mono ?_
  rintro e w1 ⟨vw, rfl, ow, hb1⟩
  have gw := Lib.hid (fun g hg => (ow.lt g hg).2)
  have pw1 := HasPts.own ow
  have B1 := hb1
  clear ow hb1
  go_wp2_with fail
  refine (K2.out _).mono ?_
  rintro e w2 ⟨rfl, hb⟩
  have pw2 := pw1.kept hb
  have B2 := below_then B1 hb B1.size
  have z2 : w1.heap.size ≤ w2.heap.size := hb.size
  clear hb pw1 B1
  go_wp2_with fail
  refine (K3.out _).mono ?_
  rintro e w3 ⟨rfl, hb⟩
  have pw3 := pw2.kept hb
  have B3 := below_then B2 hb B2.size
  have z3 : w2.heap.size ≤ w3.heap.size := hb.size
  clear hb pw2 B2
  go_wp2_with fail
  refine (K4.out _).mono ?_
  rintro e w4 ⟨va, rfl, oa4, hb⟩
  have ga := Lib.hid (fun g hg => oa4.lt g hg)
  have pw4 := pw3.kept hb
  have B4 := below_then B3 hb B3.size
  have z4 : w3.heap.size ≤ w4.heap.size := hb.size
  have zB3 := B3.size
  clear hb pw3 B3
  go_wp2_with fail
  refine (K4.out _).mono ?_
  rintro e w5 ⟨vb, rfl, ob5, hb⟩
  have gb := Lib.hid (fun g hg => ob5.lt g hg)
  have pw5 := Lib.hid (pw4.kept hb)
  have oa5 := Lib.hid (own_below oa4 hb)
  have ob5' := Lib.hid ob5
  have B5 := Lib.hid (below_then B4 hb B4.size)
  have z5 : w4.heap.size ≤ w5.heap.size := hb.size
  clear hb pw4 B4 oa4 ob5
  obtain ⟨ada, capa, rfl⟩ := own_shape oa5.out
  obtain ⟨adb, capb, rfl⟩ := own_shape ob5'.out
  obtain ⟨adw, capw, rfl, _⟩ := pw5.out
  go_wp2_with fail
  refine (same_points hl1000 (HasPts.own oa5.out) pw5.out).mono ?_
  rintro e w6 ⟨rfl, m1, rfl⟩
  go_wp2_with fail
  refine (same_points hl1000 ((HasPts.own ob5'.out).kept (below_drewN (Below.refl _ _) m1)) (pw5.out.kept (below_drewN (Below.refl _ _) m1))).mono ?_
  rintro e w6 ⟨rfl, m2, hw6⟩
  have oa6 := own_drewN (own_drewN oa5.out m1) m2
  have ob6 := own_drewN (own_drewN ob5'.out m1) m2
  have pw6 := (pw5.out.kept (below_drewN (Below.refl _ _) m1)).kept (below_drewN (Below.refl _ _) m2)
  have B6 := below_drewN (below_drewN B5.out m1) m2
  have z6 : ((w5.drewN m1).drewN m2).heap.size = w5.heap.size := by simp
  rw [← hw6] at oa6 ob6 pw6 B6 z6
  have R0 : R12 w w3.heap.size w4.heap.size _ _ _ L 0 0 w6 := ⟨by rw [fillK_zero]; exact oa6, by rw [fillK_zero]; exact ob6, pw6, B6, by omega⟩
  have R0' := Lib.hid R0
  clear hw6 oa6 ob6 pw6 B6 R0 oa5 ob5' pw5 B5
  go_wp2
  have hAl := fillK_len 50 1 L L.length
  have hBl := fillK_len 70 2 L L.length
  have hal : Hid (∀ j, j < L.length → (fillK 50 1 L L.length).getD j (0, 0) = (50 + (j : Int), 1)) := fun j hj => fillK_get 50 1 L hj
  have hbl : Hid (∀ j, j < L.length → (fillK 70 2 L L.length).getD j (0, 0) = (70 + (j : Int), 2)) := fun j hj => fillK_get 70 2 L hj
  go_loopw [13] (fun i wr => RL1 w w3.heap.size w4.heap.size (.slice adw L.length capw) (.slice ada L.length capa) (.slice adb L.length capb) L i wr) (fun i _ => L.length - (intOf i).toNat)
  case atStart => exact ⟨0, by omega, by go_num, R0'.out⟩
  case round =>
    obtain ⟨k, hk, rfl, hR⟩ := hrel
    have hR' := Lib.hid hR
    clear hR
    by_cases hlt : k < L.length
    · obtain ⟨_, _, hv, hcs⟩ := HasPts.own (l := fillK 50 1 L k) (by rw [fillK_len]; exact hR'.out.oa)
      obtain ⟨g, hg, c1, c2⟩ := hcs k (by rw [fillK_len]; exact hlt)
      rw [fillK_len] at hv; cases hv
      subst hg
      have f1 := hR'.out.oa.frozenAt (k * 2)
      have f2 := hR'.out.oa.frozenAt (k * 2 + 1)
      generalize ((fillK 50 1 L k).getD k (0, 0)).1 = X at *
      generalize ((fillK 50 1 L k).getD k (0, 0)).2 = Y at *
      have hgg := ga.out g rfl
      have R1 := Lib.hid (R12.stepa hR'.out hlt zB3 (fun q hq e => by have := gw.out q hq; cases e; omega) (fun q hq e => by have := gb.out q hq; cases e; omega))
      clear hcs
      go_wp2
      exact ⟨⟨k + 1, by omega, by go_num, R1.out⟩, by simp [intOf]; omega⟩
    · obtain rfl : k = L.length := by omega
      go_wp2
      go_loopw [14] (fun i wr => RL2 w w3.heap.size w4.heap.size (.slice adw L.length capw) (.slice ada L.length capa) (.slice adb L.length capb) L i wr) (fun i _ => L.length - (intOf i).toNat)
      case atStart => exact ⟨0, by omega, by go_num, hR'.out⟩
      case round =>
        obtain ⟨k, hk, rfl, hR⟩ := hrel
        have hR2 := Lib.hid hR
        clear hR hR' hlt
        by_cases hlt : k < L.length
        · obtain ⟨_, _, hv, hcs⟩ := HasPts.own (l := fillK 70 2 L k) (by rw [fillK_len]; exact hR2.out.ob)
          obtain ⟨g, hg, c1, c2⟩ := hcs k (by rw [fillK_len]; exact hlt)
          rw [fillK_len] at hv; cases hv
          subst hg
          have f1 := hR2.out.ob.frozenAt (k * 2)
          have f2 := hR2.out.ob.frozenAt (k * 2 + 1)
          generalize ((fillK 70 2 L k).getD k (0, 0)).1 = X at *
          generalize ((fillK 70 2 L k).getD k (0, 0)).2 = Y at *
          have hgg := gb.out g rfl
          have R1 := Lib.hid (R12.stepb hR2.out hlt (by omega) (fun q hq e => by have := gw.out q hq; cases e; omega) (fun q hq e => by have := ga.out q hq; cases e; omega))
          clear hcs
          go_wp2
          exact ⟨⟨k + 1, by omega, by go_num, R1.out⟩, by simp [intOf]; omega⟩
        · obtain rfl : k = L.length := by omega
          clear hlt
          have hS0 := hR2.out.hB.size
          obtain ⟨A, hA⟩ : ∃ A, fillK 50 1 L L.length = A := ⟨_, rfl⟩
          obtain ⟨B, hB⟩ : ∃ B, fillK 70 2 L L.length = B := ⟨_, rfl⟩
          rw [hA] at hAl hal
          rw [hB] at hBl hbl
          have oA := hR2.out.oa
          have oB := hR2.out.ob
          rw [hA] at oA
          rw [hB] at oB
          have oA' : wr.ownsRow w3.heap.size 30 2 (.slice ada L.length capa) A.length (ptCells A) := by rw [hAl]; exact oA
          have oB' : wr.ownsRow w4.heap.size 30 2 (.slice adb L.length capb) B.length (ptCells B) := by rw [hBl]; exact oB
          have gaS := Lib.hid (fun g hg => (oA.lt g hg).2)
          have gbS := Lib.hid (fun g hg => (oB.lt g hg).2)
          have hzS := hR2.out.hz
          have hBS := hR2.out.hB.size
          have RC0 : RC w wr.heap.size w3.heap.size (.slice adw L.length capw) (.slice ada L.length capa) (.slice adb L.length capb) (.slice ada L.length capa) L A B (A ++ extK 90 0) wr :=
            ⟨by rw [show A ++ extK 90 0 = A from by simp [extK]]; exact oA', HasPts.own oA', HasPts.own oB', hR2.out.hw, .inl rfl, Nat.le_refl _, hR2.out.hB⟩
          have RC0' := Lib.hid RC0
          have oB0 := Lib.hid oB'
          have gwS : Hid (∀ g, (Value.slice adw L.length capw).ownBlock = some g → g < wr.heap.size) := fun g hg => by
            have := gw.out g hg
            have := hR2.out.hz
            omega
          clear hR2 hA hB oA oB oA' oB' RC0
          go_wp2
          go_loopw [15, 17] (fun vc i w3' => RL3 w wr.heap.size w3.heap.size w4.heap.size (.slice adw L.length capw) (.slice ada L.length capa) (.slice adb L.length capb) L A B vc i w3') (fun _ i _ => 12 - (intOf i).toNat)
          case atStart => exact ⟨0, by omega, by go_num, RC0'.out, oB0.out⟩
          case round =>
            obtain ⟨k, hk, rfl, hR, hob⟩ := hrel
            have hR3 := Lib.hid hR
            have hob3 := Lib.hid hob
            clear hR hob
            have hAB : Off (.slice adb L.length capb) (Value.slice ada L.length capa).ownBlock := fun q hq e => by have := gb.out q hq; have := ga.out q e.symm; omega
            have hAW : Off (.slice adw L.length capw) (Value.slice ada L.length capa).ownBlock := fun q hq e => by have := gw.out q hq; have := ga.out q e.symm; omega
            have hAB' := Lib.hid hAB
            have hAW' := Lib.hid hAW
            clear hAB hAW
            by_cases hlt : k < 12
            · obtain ⟨v', w', hrun, hRC, hkeep⟩ := RC.step hR3.out (by simp [extK_len]; omega) (.cells #[.int .i64 (90 + (k : Int)), .int .i64 0] 30) (by go_simp) (by go_simp) zB3 (by omega) gaS.out gbS.out gwS.out hAB'.out hAW'.out
              have hRC' := Lib.hid hRC
              have hk' := Lib.hid (hkeep _ _ _ _ hob3.out gbS.out hAB'.out)
              have hrun' := Lib.hid hrun
              clear hRC hkeep hrun
              go_wp2_with (first
                | (at_builtin; refine wpList_append_run rfl _ _ 22 rfl rfl rfl hrun'.out ?_)
                | go_in)
              exact ⟨⟨k + 1, by omega, by go_num, hRC'.out, hk'.out⟩, by simp [intOf]; omega⟩
            · obtain rfl : k = 12 := by omega
              clear hlt
              obtain ⟨C, hC⟩ : ∃ C, A ++ extK 90 12 = C := ⟨_, rfl⟩
              have hCl : C.length = L.length + 12 := by rw [← hC, List.length_append, extK_len, hAl]
              have hcl1 : Hid (∀ j, j < L.length → C.getD j (0, 0) = (50 + (j : Int), 1)) := fun j hj => by rw [← hC, preK_get _ _ _ (by omega)]; exact hal.out j hj
              have hcl2 : Hid (∀ j, j < 12 → C.getD (L.length + j) (0, 0) = (90 + (j : Int), 0)) := fun j hj => by rw [← hC, ← hAl]; exact extK_get _ _ _ hj
              rw [hC] at hR3
              have oC := hR3.out.oc
              have oC' := Lib.hid oC
              have hS3 := hR3.out.hS
              have hBS3 := hR3.out.hB.size
              have gcS := Lib.hid (fun g hg => (oC.lt g hg).2)
              have gwS' : Hid (∀ g, (Value.slice adw L.length capw).ownBlock = some g → g < wr.heap.size) := fun g hg => by have := gwS.out g hg; omega
              have gaS' : Hid (∀ g, (Value.slice ada L.length capa).ownBlock = some g → g < wr.heap.size) := fun g hg => by have := gaS.out g hg; omega
              have gbS' : Hid (∀ g, (Value.slice adb L.length capb).ownBlock = some g → g < wr.heap.size) := fun g hg => by have := gbS.out g hg; omega
              have hCB : Off u15 (Value.slice adb L.length capb).ownBlock := fun q hq e => by
                rcases hR3.out.hcb with h3 | h3
                · exact hAB'.out q e.symm (hq.symm.trans h3)
                · have := h3 q hq; have := gbS.out q e.symm; omega
              have hBA : Off (.slice ada L.length capa) (Value.slice adb L.length capb).ownBlock := fun q hq e => hAB'.out q e.symm hq.symm
              have hBW : Off (.slice adw L.length capw) (Value.slice adb L.length capb).ownBlock := fun q hq e => by have := gw.out q hq; have := gb.out q e.symm; omega
              have hCB' := Lib.hid hCB
              have hBA' := Lib.hid hBA
              have hBW' := Lib.hid hBW
              have RC4 : RC w wr.heap.size w4.heap.size (.slice adw L.length capw) (.slice adb L.length capb) (.slice ada L.length capa) (.slice adb L.length capb) L B A (B ++ extK 110 0) wr :=
                ⟨by rw [show B ++ extK 110 0 = B from by simp [extK]]; exact hob3.out, HasPts.own hob3.out, hR3.out.ha, hR3.out.hw, .inl rfl, Nat.le_refl _, hR3.out.hB⟩
              have RC4' := Lib.hid RC4
              clear hR3 hob3 hCB hBA hBW oC RC4 RC0' oB0 hC
              go_wp2
              go_loopw [16, 18] (fun vd i w3' => RL4 w wr.heap.size w3.heap.size w4.heap.size (.slice adw L.length capw) (.slice ada L.length capa) (.slice adb L.length capb) u15 L A B C vd i w3') (fun _ i _ => 12 - (intOf i).toNat)
              case atStart => exact ⟨0, by omega, by go_num, RC4'.out, oC'.out⟩
              case round =>
                obtain ⟨k, hk, rfl, hR, hob⟩ := hrel
                have hR4 := Lib.hid hR
                have hob4 := Lib.hid hob
                clear hR hob
                by_cases hlt : k < 12
                · obtain ⟨v', w', hrun, hRC, hkeep⟩ := RC.step hR4.out (by simp [extK_len]; omega) (.cells #[.int .i64 (110 + (k : Int)), .int .i64 0] 30) (by go_simp) (by go_simp) (by omega) (by omega) gbS'.out gaS'.out gwS'.out hBA'.out hBW'.out
                  have hRC' := Lib.hid hRC
                  have hk' := Lib.hid (hkeep _ _ _ _ hob4.out gcS.out hCB'.out)
                  have hrun' := Lib.hid hrun
                  clear hRC hkeep hrun
                  go_wp2_with (first
                    | (at_builtin; refine wpList_append_run rfl _ _ 22 rfl rfl rfl hrun'.out ?_)
                    | go_in)
                  go_roundw
                  case rel =>
                    refine ⟨_, _, _, _, _, _, _, _, _, _, _, _, ⟨k + 1, by omega, ?_, hRC'.out, hk'.out⟩, rfl⟩
                    go_num
                  case measure => simp [intOf]; omega
                · obtain rfl : k = 12 := by omega
                  clear hlt
                  obtain ⟨D, hD⟩ : ∃ D, B ++ extK 110 12 = D := ⟨_, rfl⟩
                  have hDl : D.length = L.length + 12 := by rw [← hD, List.length_append, extK_len, hBl]
                  have hdl1 : ∀ j, j < L.length → D.getD j (0, 0) = (70 + (j : Int), 2) := fun j hj => by rw [← hD, preK_get _ _ _ (by omega)]; exact hbl.out j hj
                  have hdl2 : ∀ j, j < 12 → D.getD (L.length + j) (0, 0) = (110 + (j : Int), 0) := fun j hj => by rw [← hD, ← hBl]; exact extK_get _ _ _ hj
                  rw [hD] at hR4
                  have pd := HasPts.own hR4.out.oc
                  have pc := HasPts.own hob4.out
                  obtain ⟨add, capd, hvd, _⟩ := pd
                  obtain ⟨adc, capc, hvc, _⟩ := pc
                  rw [hDl] at hvd
                  rw [hCl] at hvc
                  subst hvd hvc
                  have qa : Hid (∀ j, j < L.length → ∃ g, ada = some ⟨g, 0, none⟩ ∧ wr.cell? ⟨g, j * 2, none⟩ = some (.int .i64 (50 + (j : Int)))) := fun j hj => HasPts.x hR4.out.hb j (by omega) (hal.out j hj)
                  have qb : Hid (∀ j, j < L.length → ∃ g, adb = some ⟨g, 0, none⟩ ∧ wr.cell? ⟨g, j * 2, none⟩ = some (.int .i64 (70 + (j : Int)))) := fun j hj => HasPts.x hR4.out.ha j (by omega) (hbl.out j hj)
                  have qc : Hid (∀ j, j < L.length → ∃ g, adc = some ⟨g, 0, none⟩ ∧ wr.cell? ⟨g, j * 2, none⟩ = some (.int .i64 (50 + (j : Int)))) := fun j hj => HasPts.x (HasPts.own hob4.out) j (by omega) (hcl1.out j hj)
                  have qd : Hid (∀ j, j < L.length → ∃ g, add = some ⟨g, 0, none⟩ ∧ wr.cell? ⟨g, j * 2, none⟩ = some (.int .i64 (70 + (j : Int)))) := fun j hj => HasPts.x (HasPts.own hR4.out.oc) j (by omega) (hdl1 j hj)
                  have qc2 : Hid (∀ j, j < 12 → ∃ g, adc = some ⟨g, 0, none⟩ ∧ wr.cell? ⟨g, (L.length + j) * 2, none⟩ = some (.int .i64 (90 + (j : Int)))) := fun j hj => HasPts.x (HasPts.own hob4.out) _ (by omega) (hcl2.out j hj)
                  have qd2 : Hid (∀ j, j < 12 → ∃ g, add = some ⟨g, 0, none⟩ ∧ wr.cell? ⟨g, (L.length + j) * 2, none⟩ = some (.int .i64 (110 + (j : Int)))) := fun j hj => HasPts.x (HasPts.own hR4.out.oc) _ (by omega) (hdl2 j hj)
                  have hpw := Lib.hid hR4.out.hw
                  have hBf := Lib.hid hR4.out.hB
                  clear hdl1 hdl2 hD hR4 hob4 RC4' oC' hal hbl
                  go_wp2
                  go_loopw [19] (fun i w5' => RLx L.length wr i w5') (fun i _ => L.length - (intOf i).toNat)
                  case atStart => exact ⟨0, by omega, by go_num, rfl⟩
                  case round =>
                    obtain ⟨k, hk, rfl, rfl⟩ := hrel
                    by_cases hlt : k < L.length
                    · obtain ⟨g1, rfl, ca⟩ := qa.out k hlt
                      obtain ⟨g2, rfl, cb⟩ := qb.out k hlt
                      obtain ⟨g3, rfl, cc⟩ := qc.out k hlt
                      obtain ⟨g4, rfl, cd⟩ := qd.out k hlt
                      go_wp2
                      exact ⟨⟨k + 1, by omega, by go_num, rfl⟩, by simp [intOf]; omega⟩
                    · obtain rfl : k = L.length := by omega
                      clear hlt
                      go_wp2
                      go_loopw [20] (fun i w5' => RLx 12 wr i w5') (fun i _ => 12 - (intOf i).toNat)
                      case atStart => exact ⟨0, by omega, by go_num, rfl⟩
                      case round =>
                        obtain ⟨k, hk, rfl, rfl⟩ := hrel
                        by_cases hlt : k < 12
                        · obtain ⟨g3, rfl, cc⟩ := qc2.out k hlt
                          obtain ⟨g4, rfl, cd⟩ := qd2.out k hlt
                          go_wp2
                          exact ⟨⟨k + 1, by omega, by go_num, rfl⟩, by simp [intOf]; omega⟩
                        · obtain rfl : k = 12 := by omega
                          clear hlt
                          go_wp2_with fail
                          refine (K4.out _).mono ?_
                          rintro e w7 ⟨vx, rfl, ox, hb⟩
                          have px := Lib.hid (HasPts.own ox)
                          have py := Lib.hid (hpw.out.kept hb)
                          have Bx := Lib.hid (below_then hBf.out hb hBf.out.size)
                          clear ox hb
                          go_wp2_with fail
                          refine (same_points hl1000 px.out py.out).mono ?_
                          rintro e w8 ⟨rfl, m, rfl⟩
                          go_wp2
                          go_ret
                          exact ⟨rfl, below_drewN Bx.out m⟩
end Go.Proofs.Ytjomgjlicfoehaa
