import Derived.Test.YtjomgjlicfoehaaHoodR
import Derived.Test.YtjomgjlicfoehaaHoodG
namespace Go.Proofs.Ytjomgjlicfoehaa
open Go.RowKit Flt
set_option linter.unusedSimpArgs false
set_option linter.unusedVariables false

def four {α : Type} (a b c d : α) : Nat → α
  | 0 => a
  | 1 => b
  | 2 => c
  | _ => d
theorem four_cell (w : World) (a b c d : Value) (t : TypeId) : ∀ j, j < 4 → (w.alloc (.cells #[a, b, c, d] t)).cell? ⟨w.heap.size, j, none⟩ = some (four a b c d j) := by
  intro j hj
  match j, hj with
  | 0, _ | 1, _ | 2, _ | 3, _ => go_simp; rfl
theorem permR_len (h part : Int) : (permR h part).length ≤ 8 := by
  unfold permR
  by_cases e : permGood h part
  · rw [if_pos e]
    unfold permL
    split
    · rw [List.length_map]; exact (offs_len h)
    · simp
  · rw [if_neg e]; simp
def FRo (w : World) (A : Nat) (row : Nat → Value) (L : Nat → List Int) (S : Nat → Nat) (u v : Value) (U V : List Int) (Z : Nat) (i : Value) (wr : World) : Prop := ∃ k : Nat, k ≤ 4 ∧ i = .int .i64 (k : Int) ∧ FR w A row L S u v U V Z k 0 wr
def FRi (w : World) (A : Nat) (row : Nat → Value) (L : Nat → List Int) (S : Nat → Nat) (u v : Value) (U V : List Int) (Z i : Nat) (j : Value) (wr : World) : Prop := ∃ k : Nat, k ≤ (L i).length ∧ j = .int .i64 (k : Int) ∧ FR w A row L S u v U V Z i k wr
def GRo (w : World) (Z A : Nat) (row : Nat → Value) (F : Nat → List Int) (S : Nat → Nat) (u v : Value) (U V : List Int) (vg i : Value) (wr : World) : Prop := ∃ (k : Nat) (G : Nat → Value), k ≤ 4 ∧ i = .int .i64 (k : Int) ∧ GR w Z A row F S u v U V k G vg wr
def IGo (wi : World) (Sb : Nat) (va : Value) (F : List Int) (i : Nat) (vc j : Value) (wr : World) : Prop := ∃ k : Nat, k ≤ 12 ∧ j = .int .i64 (k : Int) ∧ IG wi Sb va F i k vc wr
def DRo (n : Nat) (W : World) (j : Value) (wr : World) : Prop := ∃ k m : Nat, k ≤ n ∧ j = .int .i64 (k : Int) ∧ wr = W.drewN m

/-- What the reading loops read. -/
structure Rd (w : World) (A gg : Nat) (row G : Nat → Value) (F : Nat → List Int) : Prop where
  al : ∀ j, j < 4 → w.cell? ⟨A, j, none⟩ = some (row j)
  gl : ∀ j, j < 4 → w.cell? ⟨gg, j, none⟩ = some (G j)
  rd : ∀ j, j < 4 → HasInts w (row j) (F j)
  gr : ∀ j, j < 4 → HasInts w (G j) (grI j (F j) 12)

set_option maxRecDepth 100000 in
set_option maxHeartbeats 16000000 in
theorem hoodPerms_walk (h part : Int) (w : World) : Calls Try.prog 16 #[.int .u8 h, .int .i64 part] w fun e w' => e = .returned (.bool true) ∧ Below w.heap.size w w' := by
  have K1 := Lib.hid (fun W => rperm_any h part W)
  have K2 := Lib.hid (fun W => rparts_any h W)
  have K3 := Lib.hid (fun W => perm_any h part W)
  have K4 := Lib.hid (fun W => parts_any h W)
  have hl1 : (permR h part).length ≤ 8 := permR_len h part
  have hl2 : (partsR h).length ≤ 8 := partsK_len h 8
  generalize hoodErr h = er at *
  generalize permE h part = pe at *
  generalize permOk h part = ok at *
  generalize permR h part = P at *
  generalize partsR h = Q at *
  go_enter Try.func16, Try.ntmps16
  go_wp2_with fail
  refine (K1.out _).mono ?_
  rintro e w1 ⟨u, rfl, ou, hb1⟩
  have gu := Lib.hid (fun g hg => (ou.lt g hg).2)
  have pu1 := Lib.hid (HasInts.own ou)
  have B1 := Lib.hid hb1
  clear ou hb1
  go_wp2_with fail
  refine (K2.out _).mono ?_
  rintro e w2 ⟨v, rfl, ov, hb⟩
  have gv := Lib.hid (fun g hg => (ov.lt g hg).2)
  have pv2 := Lib.hid (HasInts.own ov)
  have pu2 := Lib.hid (pu1.out.kept hb)
  have B2 := Lib.hid (below_then B1.out hb B1.out.size)
  have z2 : w1.heap.size ≤ w2.heap.size := hb.size
  have y2 : w.heap.size ≤ w2.heap.size := B2.out.size
  clear ov hb pu1 B1
  go_wp2_with fail
  refine (K3.out _).mono ?_
  rintro e w3 ⟨va, rfl, oa3, hb⟩
  have ga := Lib.hid (fun g hg => oa3.lt g hg)
  have pu3 := Lib.hid (pu2.out.kept hb)
  have pv3 := Lib.hid (pv2.out.kept hb)
  have oa3' := Lib.hid oa3
  have B3 := Lib.hid (below_then B2.out hb B2.out.size)
  have z3 : w2.heap.size ≤ w3.heap.size := hb.size
  clear hb pu2 pv2 B2 oa3
  go_wp2_with fail
  refine (K3.out _).mono ?_
  rintro e w4 ⟨vb, rfl, ob4, hb⟩
  have gb := Lib.hid (fun g hg => ob4.lt g hg)
  have pu4 := Lib.hid (pu3.out.kept hb)
  have pv4 := Lib.hid (pv3.out.kept hb)
  have oa4 := Lib.hid (own_below oa3'.out hb)
  have ob4' := Lib.hid ob4
  have B4 := Lib.hid (below_then B3.out hb B3.out.size)
  have z4 : w3.heap.size ≤ w4.heap.size := hb.size
  clear hb pu3 pv3 B3 oa3' ob4
  go_wp2_with fail
  refine (K4.out _).mono ?_
  rintro e w5 ⟨vc, rfl, oc5, hb⟩
  have gc := Lib.hid (fun g hg => oc5.lt g hg)
  have pu5 := Lib.hid (pu4.out.kept hb)
  have pv5 := Lib.hid (pv4.out.kept hb)
  have oa5 := Lib.hid (own_below oa4.out hb)
  have ob5 := Lib.hid (own_below ob4'.out hb)
  have oc5' := Lib.hid oc5
  have B5 := Lib.hid (below_then B4.out hb B4.out.size)
  have z5 : w4.heap.size ≤ w5.heap.size := hb.size
  clear hb pu4 pv4 B4 oa4 ob4' oc5
  go_wp2_with fail
  refine (K4.out _).mono ?_
  rintro e w6 ⟨vd, rfl, od6, hb⟩
  have gd := Lib.hid (fun g hg => od6.lt g hg)
  have pu6 := Lib.hid (pu5.out.kept hb)
  have pv6 := Lib.hid (pv5.out.kept hb)
  have oa6 := Lib.hid (own_below oa5.out hb)
  have ob6 := Lib.hid (own_below ob5.out hb)
  have oc6 := Lib.hid (own_below oc5'.out hb)
  have od6' := Lib.hid od6
  have B6 := Lib.hid (below_then B5.out hb B5.out.size)
  have z6 : w5.heap.size ≤ w6.heap.size := hb.size
  clear hb pu5 pv5 B5 oa5 ob5 oc5' od6
  obtain ⟨ada, capa, rfl⟩ := own_shape oa6.out
  obtain ⟨adb, capb, rfl⟩ := own_shape ob6.out
  obtain ⟨adc, capc, rfl⟩ := own_shape oc6.out
  obtain ⟨add, capd, rfl⟩ := own_shape od6'.out
  obtain ⟨adu, capu, hu', _⟩ := pu6.out
  subst hu'
  obtain ⟨adv, capv, hv', _⟩ := pv6.out
  subst hv'
  have hp1000 : P.length ≤ 1000 := by omega
  have hq1000 : Q.length ≤ 1000 := by omega
  go_wp2_with fail
  refine (same_ints hp1000 (HasInts.own oa6.out) pu6.out).mono ?_
  rintro e w7 ⟨rfl, m1, rfl⟩
  go_wp2_with fail
  refine (same_ints hp1000 ((HasInts.own ob6.out).drawn m1) (pu6.out.drawn m1)).mono ?_
  rintro e w7 ⟨rfl, m2, rfl⟩
  go_wp2_with fail
  refine (same_ints hq1000 ((HasInts.own oc6.out).drawn (m1 + m2)) (pv6.out.drawn (m1 + m2))).mono ?_
  rintro e w7 ⟨rfl, m3, rfl⟩
  go_wp2_with fail
  refine (same_ints hq1000 ((HasInts.own od6'.out).drawn (m1 + m2 + m3)) (pv6.out.drawn (m1 + m2 + m3))).mono ?_
  rintro e w7 ⟨rfl, m4, hw7⟩
  have oa7 := own_drewN (own_drewN oa6.out (m1 + m2 + m3)) m4
  have ob7 := own_drewN (own_drewN ob6.out (m1 + m2 + m3)) m4
  have oc7 := own_drewN (own_drewN oc6.out (m1 + m2 + m3)) m4
  have od7 := own_drewN (own_drewN od6'.out (m1 + m2 + m3)) m4
  have pu7 := (pu6.out.drawn (m1 + m2 + m3)).drawn m4
  have pv7 := (pv6.out.drawn (m1 + m2 + m3)).drawn m4
  have B7 := below_drewN (below_drewN B6.out (m1 + m2 + m3)) m4
  have y7 : w6.heap.size = w7.heap.size := by rw [hw7]; simp
  rw [← hw7] at oa7 ob7 oc7 od7 pu7 pv7 B7
  have hR : Rows4 w (w7.heap.size + 1) w7.heap.size (four (.slice ada P.length capa) (.slice adb P.length capb) (.slice adc Q.length capc) (.slice add Q.length capd)) (four P P Q Q) (four w2.heap.size w3.heap.size w4.heap.size w5.heap.size) (.slice adu P.length capu) (.slice adv Q.length capv) := by
    refine ⟨?_, ?_, ?_, ?_, ?_, ?_, ?_, ?_, ?_, by omega⟩
    · intro j hj; match j, hj with
      | 0, _ => exact hl1
      | 1, _ => exact hl1
      | 2, _ => exact hl2
      | 3, _ => exact hl2
    · intro j hj; match j, hj with
      | 0, _ => exact y2
      | 1, _ => show w.heap.size ≤ w3.heap.size; omega
      | 2, _ => show w.heap.size ≤ w4.heap.size; omega
      | 3, _ => show w.heap.size ≤ w5.heap.size; omega
    · intro j hj; match j, hj with
      | 0, _ => show w2.heap.size ≤ _; omega
      | 1, _ => show w3.heap.size ≤ _; omega
      | 2, _ => show w4.heap.size ≤ _; omega
      | 3, _ => show w5.heap.size ≤ _; omega
    · intro j hj g hg; match j, hj with
      | 0, _ => have := ga.out g hg; omega
      | 1, _ => have := gb.out g hg; omega
      | 2, _ => have := gc.out g hg; omega
      | 3, _ => have := gd.out g hg; omega
    · intro j r hj hr hne g hg e
      match j, hj, r, hr with
      | 0, _, 0, _ => exact hne rfl
      | 0, _, 1, _ => have := ga.out g hg; have := gb.out g e.symm; omega
      | 0, _, 2, _ => have := ga.out g hg; have := gc.out g e.symm; omega
      | 0, _, 3, _ => have := ga.out g hg; have := gd.out g e.symm; omega
      | 1, _, 0, _ => have := gb.out g hg; have := ga.out g e.symm; omega
      | 1, _, 1, _ => exact hne rfl
      | 1, _, 2, _ => have := gb.out g hg; have := gc.out g e.symm; omega
      | 1, _, 3, _ => have := gb.out g hg; have := gd.out g e.symm; omega
      | 2, _, 0, _ => have := gc.out g hg; have := ga.out g e.symm; omega
      | 2, _, 1, _ => have := gc.out g hg; have := gb.out g e.symm; omega
      | 2, _, 2, _ => exact hne rfl
      | 2, _, 3, _ => have := gc.out g hg; have := gd.out g e.symm; omega
      | 3, _, 0, _ => have := gd.out g hg; have := ga.out g e.symm; omega
      | 3, _, 1, _ => have := gd.out g hg; have := gb.out g e.symm; omega
      | 3, _, 2, _ => have := gd.out g hg; have := gc.out g e.symm; omega
      | 3, _, 3, _ => exact hne rfl
    · intro r hr g hg e
      have h0 := gu.out g hg
      match r, hr with
      | 0, _ => have := ga.out g e.symm; omega
      | 1, _ => have := gb.out g e.symm; omega
      | 2, _ => have := gc.out g e.symm; omega
      | 3, _ => have := gd.out g e.symm; omega
    · intro r hr g hg e
      have h0 := gv.out g hg
      match r, hr with
      | 0, _ => have := ga.out g e.symm; omega
      | 1, _ => have := gb.out g e.symm; omega
      | 2, _ => have := gc.out g e.symm; omega
      | 3, _ => have := gd.out g e.symm; omega
    · intro g hg; have := gu.out g hg; omega
    · intro g hg; have := gv.out g hg; omega
  have hR' := Lib.hid hR
  clear hR
  have hF0 : FR w w7.heap.size (four (.slice ada P.length capa) (.slice adb P.length capb) (.slice adc Q.length capc) (.slice add Q.length capd)) (four P P Q Q) (four w2.heap.size w3.heap.size w4.heap.size w5.heap.size) (.slice adu P.length capu) (.slice adv Q.length capv) P Q (w7.heap.size + 1) 0 0
      (w7.alloc (.cells #[.slice ada P.length capa, .slice adb P.length capb, .slice adc Q.length capc, .slice add Q.length capd] 78)) := by
    refine ⟨?_, pu7.kept (below_new _), pv7.kept (below_new _), ?_, B7.alloc (by have := B7.size; omega) _, by simp⟩
    · intro j hj
      have e0 : fillTo 0 0 (four P P Q Q) j = four P P Q Q j := by unfold fillTo; simp [fillI_zero]
      rw [e0]
      match j, hj with
      | 0, _ => exact oa7.alloc _
      | 1, _ => exact ob7.alloc _
      | 2, _ => exact oc7.alloc _
      | 3, _ => exact od7.alloc _
    · exact four_cell _ _ _ _ _ _
  have hF0' := Lib.hid hF0
  clear hF0 oa7 ob7 oc7 od7 pu7 pv7 B7 oa6 ob6 oc6 od6' pu6 pv6 B6 ga gb gc gd gu gv hw7
  generalize (four (α := Value) (.slice ada P.length capa) (.slice adb P.length capb) (.slice adc Q.length capc) (.slice add Q.length capd)) = row at *
  generalize (four P P Q Q) = L at *
  generalize (four w2.heap.size w3.heap.size w4.heap.size w5.heap.size) = S at *
  have hyz : w.heap.size ≤ w7.heap.size + 1 := by omega
  go_wp2
  go_loopw [21] (fun i wr => FRo w w7.heap.size row L S (.slice adu P.length capu) (.slice adv Q.length capv) P Q (w7.heap.size + 1) i wr) (fun i _ => 4 - (intOf i).toNat)
  case atStart => exact ⟨0, by omega, by go_num, hF0'.out⟩
  case round =>
    obtain ⟨i, hi, rfl, hF⟩ := hrel
    have hF1 := Lib.hid hF
    clear hF hF0'
    by_cases hlt : i < 4
    · obtain ⟨adi, capi, hrow⟩ := own_shape (hF1.out.own i hlt)
      have hrow' := Lib.hid hrow
      have hl8 := hR'.out.len i hlt
      have al := hF1.out.al i hlt
      rw [hrow] at al
      clear hrow
      go_wp2
      go_loopw [22] (fun j wx => FRi w w7.heap.size row L S (.slice adu P.length capu) (.slice adv Q.length capv) P Q (w7.heap.size + 1) i j wx) (fun j _ => (L i).length - (intOf j).toNat)
      case atStart => exact ⟨0, by omega, by go_num, hF1.out⟩
      case round =>
        obtain ⟨k, hk, rfl, hG⟩ := hrel
        have hF2 := Lib.hid hG
        clear hG hF1 al
        have al := hF2.out.al i hlt
        rw [hrow'.out] at al
        by_cases hltk : k < (L i).length
        · obtain ⟨g, hg, oc, of⟩ := hF2.out.shape hlt hltk hrow'.out
          subst hg
          have R1 := Lib.hid (hF2.out.store hR'.out hlt hltk hrow'.out)
          rw [show 100 * (i : Int) + 50 + (k : Int) = 100 * (i : Int) + (k : Int) + 50 from by omega] at R1
          generalize (fillTo i k L i).getD k 0 = ov at *
          go_wp2
          exact ⟨⟨k + 1, by omega, by go_num, R1.out⟩, by simp [intOf]; omega⟩
        · obtain rfl : k = (L i).length := by omega
          clear hltk
          go_wp2
          exact ⟨⟨i + 1, by omega, by go_num, hF2.out.next⟩, by simp [intOf]; omega⟩
    · have hi4 : i = 4 := by omega
      have hF4 : FR w w7.heap.size row L S (.slice adu P.length capu) (.slice adv Q.length capv) P Q (w7.heap.size + 1) 4 0 wr := by rw [← hi4]; exact hF1.out
      clear hF1
      have hF1 := Lib.hid hF4
      clear hi4 hF4
      obtain ⟨F, hFd⟩ : ∃ F : Nat → List Int, (fun j : Nat => fillI (100 * (j : Int) + 50) (L j) (L j).length) = F := ⟨_, rfl⟩
      have hFl : Hid (∀ j, (F j).length = (L j).length) := fun j => by rw [← hFd]; exact fillI_len _ _ _
      have hFg : Hid (∀ j k, k < (F j).length → (F j).getD k 0 = 100 * (j : Int) + (k : Int) + 50) := fun j k hk => by
        rw [← hFd] at hk ⊢
        rw [fillI_get _ _ (by rw [fillI_len] at hk; exact hk)]
        omega
      have hFt : ∀ j, j < 4 → fillTo 4 0 L j = F j := fun j hj => by rw [← hFd]; unfold fillTo; rw [if_pos hj]
      have G0 : GR w (w7.heap.size + 1) w7.heap.size row F S (.slice adu P.length capu) (.slice adv Q.length capv) P Q 0 (fun _ => .slice none 0 0) (.slice none 0 0) wr := by
        have hown : ∀ j, j < 4 → wr.ownsRow (S j) 3 1 (row j) (F j).length ((F j).map (Value.int .i64)) := fun j hj => by
          have := hF1.out.own j hj
          rw [hFt j hj] at this
          rw [hFl.out j]
          exact this
        exact ⟨fun j _ hj => hown j hj, fun j hj => HasInts.own (hown j hj), fun j hj => by omega, World.ownsRow_nil _ _ _ _, fun j hj => by omega, fun j hj => by omega, hF1.out.hu, hF1.out.hv, hF1.out.al, hF1.out.hB, hF1.out.hZ⟩
      have G0' := Lib.hid G0
      clear G0 hFd hFt hF1
      go_wp2
      go_loopw [23, 24] (fun vg i wx => GRo w (w7.heap.size + 1) w7.heap.size row F S (.slice adu P.length capu) (.slice adv Q.length capv) P Q vg i wx) (fun _ i _ => 4 - (intOf i).toNat)
      case atStart => exact ⟨0, _, by omega, by go_num, G0'.out⟩
      case round =>
        obtain ⟨i, G, hi, rfl, hG⟩ := hrel
        have hG1 := Lib.hid hG
        clear hG G0'
        by_cases hlt : i < 4
        · obtain ⟨adi, capi, hrow⟩ := own_shape (hG1.out.own i (Nat.le_refl _) hlt)
          have hrow' := Lib.hid hrow
          have hl8 : (F i).length ≤ 8 := by rw [hFl.out i]; exact hR'.out.len i hlt
          have al := hG1.out.al i hlt
          rw [hrow] at al
          have st := Lib.hid (hG1.out.start hlt)
          rw [hrow] at st
          have hva : Hid (∀ g, (Value.slice adi (F i).length capi).ownBlock = some g → g < wr.heap.size) := fun g hg => by
            rw [← hrow'.out] at hg
            have := (hR'.out.blk i hlt g hg).1
            have := hG1.out.hZ
            omega
          have hSb : S i ≤ wr.heap.size := Nat.le_trans (hR'.out.hS i hlt) hG1.out.hZ
          clear hrow
          rename World => wo
          have hlt' := Lib.hid hlt
          go_wp2
          rw [show decide ((i : Int) < 4) = true from decide_eq_true (by omega)]
          clear hlt
          go_loopw [25, 26] (fun vc j wx => IGo wo (S i) (.slice adi (F i).length capi) (F i) i vc j wx) (fun _ j _ => 12 - (intOf j).toNat)
          case atStart => exact ⟨0, by omega, by go_num, st.out⟩
          case round =>
            obtain ⟨k, hk, rfl, hI⟩ := hrel
            have hI1 := Lib.hid hI
            clear hI st
            by_cases hltk : k < 12
            · have hlen : (grI i (F i) k).length ≤ 1000 := by unfold grI; rw [List.length_append, extI_len]; omega
              obtain ⟨v', w', hrun, hI2⟩ := hI1.out.step (w := w) hlen (.cells #[.int .i64 (1000 * (i : Int) + (k : Int) + 500)] 3) (by rw [show 1000 * (i : Int) + 500 + (k : Int) = 1000 * (i : Int) + (k : Int) + 500 from by omega]; go_simp) hSb hva.out
              have hrun' := Lib.hid hrun
              have hI2' := Lib.hid hI2
              clear hrun hI2
              go_wp2_with (first
                | (at_builtin; refine wpList_append_run rfl _ _ 78 rfl rfl rfl hrun'.out ?_)
                | go_in)
              exact ⟨⟨k + 1, by omega, by go_num, hI2'.out⟩, by simp [intOf]; omega⟩
            · obtain rfl : k = 12 := by omega
              clear hltk
              obtain ⟨adx, capx, hx⟩ := own_shape hI1.out.oc
              subst hx
              have hI2 : IG wo (S i) (row i) (F i) i 12 (.slice adx (grI i (F i) 12).length capx) wr := by rw [hrow'.out]; exact hI1.out
              have hnn : (grI i (F i) 12).length = (F i).length + 12 := by unfold grI; rw [List.length_append, extI_len]
              rw [hnn] at hI2 hI1
              obtain ⟨v', w', G', hrun, hG2⟩ := hG1.out.next hR'.out hyz hlt'.out hI2 (.cells #[.slice adx ((F i).length + 12) capx] 78) (by go_simp)
              have hrun' := Lib.hid hrun
              have hG2' := Lib.hid hG2
              clear hrun hG2 hI2
              go_wp2_with (first
                | (at_builtin; refine wpList_append_run rfl _ _ 87 rfl rfl rfl hrun'.out ?_)
                | go_in)
              exact ⟨⟨i + 1, G', by have := hlt'.out; omega, by go_num, hG2'.out⟩, by have := hlt'.out; simp [intOf]; omega⟩
        · obtain rfl : i = 4 := by omega
          clear hlt
          have hog := hG1.out.og
          rcases hog.2 with ⟨_, h0⟩ | ⟨gg, capg, cur, hv, _⟩
          · cases h0
          subst hv
          have rd : Rd wr w7.heap.size gg row G F := by
            refine ⟨hG1.out.al, fun j hj => ?_, hG1.out.rd, hG1.out.gr⟩
            have := hog.cellAt j (by omega)
            rw [this]
            match j, hj with
            | 0, _ | 1, _ | 2, _ | 3, _ => rfl
          have rd' := Lib.hid rd
          have hul := Lib.hid hG1.out.hu
          have hvl := Lib.hid hG1.out.hv
          have hBl := Lib.hid hG1.out.hB
          clear hog rd hG1
          go_wp2
          go_loopw [27] (fun i wx => DRo 4 wr i wx) (fun i _ => 4 - (intOf i).toNat)
          case atStart => exact ⟨0, 0, by omega, by go_num, rfl⟩
          case round =>
            obtain ⟨i, m, hi, rfl, rfl⟩ := hrel
            by_cases hlt : i < 4
            · obtain ⟨adr, capr, hr, hcr⟩ := rd'.out.rd i hlt
              obtain ⟨adg, capg', hgi, hcg⟩ := rd'.out.gr i hlt
              have al := rd'.out.al i hlt
              have gl := rd'.out.gl i hlt
              rw [hr] at al
              rw [hgi] at gl
              have hl8 : (F i).length ≤ 8 := by rw [hFl.out i]; exact hR'.out.len i hlt
              have hnn : (grI i (F i) 12).length = (F i).length + 12 := by unfold grI; rw [List.length_append, extI_len]
              rw [hnn] at gl
              have q1 : Hid (∀ k, k < (F i).length → ∃ g, adr = some ⟨g, 0, none⟩ ∧ wr.cell? ⟨g, k, none⟩ = some (.int .i64 (100 * (i : Int) + (k : Int) + 50))) := fun k hk => by
                obtain ⟨g, hg, c⟩ := hcr k hk
                rw [hFg.out i k hk] at c
                exact ⟨g, hg, c⟩
              have q2 : Hid (∀ k, k < (F i).length → ∃ g, adg = some ⟨g, 0, none⟩ ∧ wr.cell? ⟨g, k, none⟩ = some (.int .i64 (100 * (i : Int) + (k : Int) + 50))) := fun k hk => by
                obtain ⟨g, hg, c⟩ := hcg k (by omega)
                unfold grI at c
                rw [preI_get _ _ _ hk, hFg.out i k hk] at c
                exact ⟨g, hg, c⟩
              have q3 : Hid (∀ k, k < 12 → ∃ g, adg = some ⟨g, 0, none⟩ ∧ wr.cell? ⟨g, (F i).length + k, none⟩ = some (.int .i64 (1000 * (i : Int) + (k : Int) + 500))) := fun k hk => by
                obtain ⟨g, hg, c⟩ := hcg ((F i).length + k) (by omega)
                unfold grI at c
                rw [extI_get _ _ _ hk, show 1000 * (i : Int) + 500 + (k : Int) = 1000 * (i : Int) + (k : Int) + 500 from by omega] at c
                exact ⟨g, hg, c⟩
              clear hcr hcg hr hgi hnn
              generalize hn : (F i).length = n at *
              clear hn
              go_wp2
              go_loopw [29] (fun k wx => DRo n wr k wx) (fun k _ => n - (intOf k).toNat)
              case atStart => exact ⟨0, m, by omega, by go_num, rfl⟩
              case round =>
                obtain ⟨k, m', hk, rfl, rfl⟩ := hrel
                by_cases hltk : k < n
                · obtain ⟨g1, rfl, d1⟩ := q1.out k hltk
                  obtain ⟨g2, rfl, d2⟩ := q2.out k hltk
                  go_wp2
                  go_quiet (fail)
                  go_wp2
                  exact ⟨⟨k + 1, m' + nq, by omega, by go_num, rfl⟩, by simp [intOf]; omega⟩
                · obtain rfl : k = n := by omega
                  clear hltk
                  go_wp2
                  go_loopw [30] (fun j wx => DRo 12 wr j wx) (fun j _ => 12 - (intOf j).toNat)
                  case atStart => exact ⟨0, m', by omega, by go_num, rfl⟩
                  case round =>
                    obtain ⟨j, m2, hj, rfl, rfl⟩ := hrel
                    by_cases hltj : j < 12
                    · obtain ⟨g2, rfl, d2⟩ := q3.out j hltj
                      go_wp2
                      exact ⟨⟨j + 1, m2, by omega, by go_num, rfl⟩, by simp [intOf]; omega⟩
                    · obtain rfl : j = 12 := by omega
                      clear hltj
                      go_wp2
                      exact ⟨⟨i + 1, m2, by omega, by go_num, rfl⟩, by simp [intOf]; omega⟩
            · obtain rfl : i = 4 := by omega
              clear hlt
              go_wp2_with fail
              refine (K3.out _).mono ?_
              rintro e w9 ⟨vx, rfl, ox, hb⟩
              have px := Lib.hid (HasInts.own ox)
              have pu9 := Lib.hid ((hul.out.drawn m).kept hb)
              have pv9 := Lib.hid ((hvl.out.drawn m).kept hb)
              have B9 := Lib.hid (below_then (below_drewN hBl.out m) hb (below_drewN hBl.out m).size)
              clear ox hb
              go_wp2_with fail
              refine (K4.out _).mono ?_
              rintro e w10 ⟨vy, rfl, oy, hb⟩
              have px2 := Lib.hid (px.out.kept hb)
              have py := Lib.hid (HasInts.own oy)
              have pu10 := Lib.hid (pu9.out.kept hb)
              have pv10 := Lib.hid (pv9.out.kept hb)
              have B10 := Lib.hid (below_then B9.out hb B9.out.size)
              clear oy hb
              go_wp2_with fail
              refine (same_ints hp1000 px2.out pu10.out).mono ?_
              rintro e w11 ⟨rfl, m3, rfl⟩
              go_wp2_with fail
              refine (same_ints hq1000 (py.out.drawn m3) (pv10.out.drawn m3)).mono ?_
              rintro e w11 ⟨rfl, m4, rfl⟩
              go_wp2
              go_ret
              exact ⟨rfl, below_drewN B10.out (m3 + m4)⟩
end Go.Proofs.Ytjomgjlicfoehaa
