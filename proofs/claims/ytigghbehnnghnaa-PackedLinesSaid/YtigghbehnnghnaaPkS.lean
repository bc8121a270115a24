import Derived.Test.YtigghbehnnghnaaPkR
import Derived.Deep.RegionWith
import Derived.Deep.CutRange
import Derived.IntWalk
import Derived.StillTailTactics
import Derived.Deep.AppendLies
namespace Go.Proofs.Ytigghbehnnghnaa
attribute [local go_sem] RegInv.putAll
open Go.RowKit Go.RowBits
set_option linter.unusedSimpArgs false
set_option linter.unusedVariables false

set_option maxRecDepth 100000 in
set_option maxHeartbeats 4000000 in
theorem packedLines_walk {w : World} {hood : Int} {born stay : Nat} (hb1 : born < 65536) (hs1 : stay < 65536) (nf : Nat → Int) (vf : Nat → Value) (R : Nat → List Nat) (hR : ∀ j, j < 3 → HasW w (vf j) (R j)) (h64 : ∀ j, j < 3 → W64 (R j))
    (hlen : ∀ j, j < 3 → (R j).length * 8 + 16 ≤ 140737488355328) (hnil : ∀ j, j < 3 → vf j = .slice none 0 0 ∨ ∃ a c, vf j = .slice (some a) (R j).length c) :
    Calls Try.prog 3 #[.agg #[.int .u8 hood, .int .u16 (born : Int), .int .u16 (stay : Int)], .agg #[.int .i64 (nf 0), vf 0], .agg #[.int .i64 (nf 1), vf 1], .agg #[.int .i64 (nf 2), vf 2]] w fun e w' =>
      e = .returned (.bool true) ∧ Below w.heap.size w w' := by
  have hv : ∀ j, j < 3 → ∃ ad cap, vf j = .slice ad (R j).length cap := fun j hj => by
    obtain ⟨ad, cap, e, _⟩ := hR j hj
    exact ⟨ad, cap, e⟩
  have hR' := Lib.hid hR
  have h64' := Lib.hid h64
  have hlen' := Lib.hid hlen
  have hnil' := Lib.hid hnil
  obtain ⟨a0, c0, e0⟩ := hv 0 (by omega)
  obtain ⟨a1, c1, e1⟩ := hv 1 (by omega)
  obtain ⟨a2, c2, e2⟩ := hv 2 (by omega)
  have hvf : Hid (∀ j, j < 3 → vf j = .slice (fn3 a0 a1 a2 j) (R j).length (fn3 c0 c1 c2 j)) := fun j hj => by
    match j, hj with
    | 0, _ => exact e0
    | 1, _ => exact e1
    | 2, _ => exact e2
  have hE : Hid (vf 0 = .slice a0 (R 0).length c0 ∧ vf 1 = .slice a1 (R 1).length c1 ∧ vf 2 = .slice a2 (R 2).length c2) := ⟨e0, e1, e2⟩
  have K10 := fun W (h : ∀ j, j < 3 → HasW W (vf j) (R j)) => ((rline12 (hood := hood) hb1 hs1 nf vf R h h64).mono (fun e w' h => lineIs_out h))
  simp only [e0, e1, e2] at K10
  have K1 := Lib.hid K10
  have K2 := Lib.hid (fun W (vf' : Nat → Value) (h : ∀ j, j < 3 → HasW W (vf' j) (R j)) => (pline14 (hood := hood) hb1 hs1 nf vf' R h h64).mono (fun e w' h => lineIs_out h))
  rw [e0, e1, e2]
  clear hv e0 e1 e2 hR h64 hlen hnil K10
  go_enter Try.func3, Try.ntmps3
  go_wp2_with fail
  refine (K1.out _ (fun j hj => (hR'.out j hj).kept (((((below_new _).alloc (by simp) _).alloc (by simp; omega) _).alloc (by simp; omega) _)))).mono ?_
  rintro e w1 ⟨vw, rfl, hw, hb⟩
  have E1 := Lib.hid ((((((Env.nil w).alloc rfl #[.int .u8 hood, .int .u16 (born : Int), .int .u16 (stay : Int)] 24 (by decide)).alloc (n := w.heap.size + 1) (by simp) #[.int .i64 (nf 0), .slice a0 (R 0).length c0] 27 (by decide)).alloc (n := w.heap.size + 1 + 1) (by simp) #[.int .i64 (nf 1), .slice a1 (R 1).length c1] 27 (by decide)).alloc (n := w.heap.size + 1 + 1 + 1) (by simp) #[.int .i64 (nf 2), .slice a2 (R 2).length c2] 27 (by decide)).below hb)
  have hB1 := Lib.hid (below_then (((((below_new _).alloc (by simp) _).alloc (by simp; omega) _).alloc (by simp; omega) _)) hb (by simp; omega))
  have hz1 : w.heap.size + 1 + 1 + 1 + 1 ≤ w1.heap.size := by have := hb.size; simpa using this
  have hW1 := Lib.hid hw
  obtain ⟨adw, rfl⟩ := hw.2
  clear hb hw
  generalize lineN hood born stay (nf 0) (nf 1) (nf 2) (R 0) (R 1) (R 2) = LN at *
  generalize lineE hood born stay (nf 0) (nf 1) (nf 2) (R 0) (R 1) (R 2) = LE at *
  have hws := @lineW_le hood born stay (nf 0) (nf 1) (nf 2) (R 0) (R 1) (R 2)
  generalize lineW hood born stay (nf 0) (nf 1) (nf 2) (R 0) (R 1) (R 2) = ws at *
  generalize hL : ws.length = Lw at *
  have hL' := Lib.hid hL
  clear hL
  go_upto_region 2 with fail
  obtain ⟨W2, hW2⟩ : ∃ W2, W2 = w1.alloc (.cells #[.int .i64 LN, .slice adw Lw Lw] 27) := ⟨_, rfl⟩
  have E20 := E1.out.alloc rfl #[.int .i64 LN, .slice adw Lw Lw] 27 (by decide)
  rw [← hW2] at E20
  have E2 := Lib.hid E20
  have hB2 : Hid (Below w.heap.size w W2) := by rw [hW2]; exact hB1.out.alloc hB1.out.size _
  have hW22 : Hid (OwnW W2 0 (.slice adw Lw Lw) ws) := by rw [hW2]; have := hW1.out.below (below_new (.cells #[.int .i64 LN, .slice adw Lw Lw] 27)); exact ⟨this.1.mono (Nat.zero_le _), this.2⟩
  have hz2 : w1.heap.size + 1 = W2.heap.size := by rw [hW2]; simp
  rw [← hW2]
  clear hW2 E20
  have KL := Lib.hid (fun k (hk : k < 3) W (h : HasW W (vf k) (R k)) => lent13 (nf k) (hlen'.out k hk) h (hnil'.out k hk))
  refine RegInv.wp_region_inv 9 [11, 12, 13, 39, 40, 41, 42, 43, 44] (I3 W2 nf vf R) (by kernel_rfl) (by kernel_rfl) ?_ ?_ ?_
  · exact ⟨_, _, _, _, _, _, _, _, _, rfl, J3.start (Below.refl _ _).drew⟩
  · intro i hi L vs w' hLi hd hI K hK
    obtain ⟨p0, p1, p2, d0, k0, d1, k1, d2, k2, rfl, hJ⟩ := hI
    have hJ' := Lib.hid hJ
    have hEw := Lib.hid (E2.out.below hJ.B)
    clear hJ
    match i, hi with
    | 0, _ =>
      have x0 : w'.cell? ⟨w.heap.size + 1, 0, none⟩ = some (.int .i64 (nf 0)) := hEw.out.cell (cs := #[.int .i64 (nf 0), .slice a0 (R 0).length c0]) (T := 27) (by simp) rfl
      have x1 : w'.cell? ⟨w.heap.size + 1, 1, none⟩ = some (.slice a0 (R 0).length c0) := hEw.out.cell (cs := #[.int .i64 (nf 0), .slice a0 (R 0).length c0]) (T := 27) (by simp) rfl
      have hn := hJ'.out.setArg (k := 0) (by omega)
      rw [upd_fn3_0, hE.out.1] at hn
      have hn' := Lib.hid hn
      clear hn
      refine wpOp_step rfl (fun K' hK' => ?_)
      go_simp
      have hk := hK' _ _ (hK [p0, p1, p2, .agg #[.int .i64 (nf 0), .slice a0 (R 0).length c0], k0, d1, k1, d2, k2] w' ⟨_, _, _, _, _, _, _, _, _, rfl, hn'.out⟩)
      revert hk
      go_simp
    | 1, _ =>
      have hd' : ([0] : List Nat).all L = true := hd
      have h0 : L 0 = true := by simp at hd'; first | exact hd' | exact hd'.1
      have hda : d0 = .agg #[.int .i64 (nf 0), vf 0] := hJ'.out.arg 0 (by omega) h0
      subst hda
      have hw6 := Lib.hid ((hR'.out 0 (by omega)).keptB (below_then hB2.out hJ'.out.B hB2.out.size) (Nat.le_refl _))
      clear hd' h0
      refine wpOp_step rfl (fun K' hK' => ?_)
      go_simp
      refine (KL.out 0 (by omega) _ hw6.out).mono ?_
      rintro e w6 ⟨v6, rfl, hL6, hb6⟩
      have hn := hJ'.out.setLent (k := 0) (by omega) hL6 hb6
      rw [upd_fn3_0] at hn
      have hn' := Lib.hid hn
      clear hn hb6 hL6
      have hk := hK' _ _ (hK [p0, p1, p2, .agg #[.int .i64 (nf 0), vf 0], .agg #[.int .i64 (nf 0), v6], d1, k1, d2, k2] w6 ⟨_, _, _, _, _, _, _, _, _, rfl, hn'.out⟩)
      revert hk
      go_simp
    | 2, _ =>
      have x0 : w'.cell? ⟨w.heap.size + 1 + 1, 0, none⟩ = some (.int .i64 (nf 1)) := hEw.out.cell (cs := #[.int .i64 (nf 1), .slice a1 (R 1).length c1]) (T := 27) (by simp) rfl
      have x1 : w'.cell? ⟨w.heap.size + 1 + 1, 1, none⟩ = some (.slice a1 (R 1).length c1) := hEw.out.cell (cs := #[.int .i64 (nf 1), .slice a1 (R 1).length c1]) (T := 27) (by simp) rfl
      have hn := hJ'.out.setArg (k := 1) (by omega)
      rw [upd_fn3_1, hE.out.2.1] at hn
      have hn' := Lib.hid hn
      clear hn
      refine wpOp_step rfl (fun K' hK' => ?_)
      go_simp
      have hk := hK' _ _ (hK [p0, p1, p2, d0, k0, .agg #[.int .i64 (nf 1), .slice a1 (R 1).length c1], k1, d2, k2] w' ⟨_, _, _, _, _, _, _, _, _, rfl, hn'.out⟩)
      revert hk
      go_simp
    | 3, _ =>
      have hd' : ([2, 1] : List Nat).all L = true := hd
      have h0 : L 2 = true := by simp at hd'; first | exact hd' | exact hd'.1
      have hda : d1 = .agg #[.int .i64 (nf 1), vf 1] := hJ'.out.arg 1 (by omega) h0
      subst hda
      have hw6 := Lib.hid ((hR'.out 1 (by omega)).keptB (below_then hB2.out hJ'.out.B hB2.out.size) (Nat.le_refl _))
      clear hd' h0
      refine wpOp_step rfl (fun K' hK' => ?_)
      go_simp
      refine (KL.out 1 (by omega) _ hw6.out).mono ?_
      rintro e w6 ⟨v6, rfl, hL6, hb6⟩
      have hn := hJ'.out.setLent (k := 1) (by omega) hL6 hb6
      rw [upd_fn3_1] at hn
      have hn' := Lib.hid hn
      clear hn hb6 hL6
      have hk := hK' _ _ (hK [p0, p1, p2, d0, k0, .agg #[.int .i64 (nf 1), vf 1], .agg #[.int .i64 (nf 1), v6], d2, k2] w6 ⟨_, _, _, _, _, _, _, _, _, rfl, hn'.out⟩)
      revert hk
      go_simp
    | 4, _ =>
      have x0 : w'.cell? ⟨w.heap.size + 1 + 1 + 1, 0, none⟩ = some (.int .i64 (nf 2)) := hEw.out.cell (cs := #[.int .i64 (nf 2), .slice a2 (R 2).length c2]) (T := 27) (by simp) rfl
      have x1 : w'.cell? ⟨w.heap.size + 1 + 1 + 1, 1, none⟩ = some (.slice a2 (R 2).length c2) := hEw.out.cell (cs := #[.int .i64 (nf 2), .slice a2 (R 2).length c2]) (T := 27) (by simp) rfl
      have hn := hJ'.out.setArg (k := 2) (by omega)
      rw [upd_fn3_2, hE.out.2.2] at hn
      have hn' := Lib.hid hn
      clear hn
      refine wpOp_step rfl (fun K' hK' => ?_)
      go_simp
      have hk := hK' _ _ (hK [p0, p1, p2, d0, k0, d1, k1, .agg #[.int .i64 (nf 2), .slice a2 (R 2).length c2], k2] w' ⟨_, _, _, _, _, _, _, _, _, rfl, hn'.out⟩)
      revert hk
      go_simp
    | 5, _ =>
      have hd' : ([4, 3] : List Nat).all L = true := hd
      have h0 : L 4 = true := by simp at hd'; first | exact hd' | exact hd'.1
      have hda : d2 = .agg #[.int .i64 (nf 2), vf 2] := hJ'.out.arg 2 (by omega) h0
      subst hda
      have hw6 := Lib.hid ((hR'.out 2 (by omega)).keptB (below_then hB2.out hJ'.out.B hB2.out.size) (Nat.le_refl _))
      clear hd' h0
      refine wpOp_step rfl (fun K' hK' => ?_)
      go_simp
      refine (KL.out 2 (by omega) _ hw6.out).mono ?_
      rintro e w6 ⟨v6, rfl, hL6, hb6⟩
      have hn := hJ'.out.setLent (k := 2) (by omega) hL6 hb6
      rw [upd_fn3_2] at hn
      have hn' := Lib.hid hn
      clear hn hb6 hL6
      have hk := hK' _ _ (hK [p0, p1, p2, d0, k0, d1, k1, .agg #[.int .i64 (nf 2), vf 2], .agg #[.int .i64 (nf 2), v6]] w6 ⟨_, _, _, _, _, _, _, _, _, rfl, hn'.out⟩)
      revert hk
      go_simp
    | 6, _ =>
      have hn := hJ'.out.setPtr (k := 0) (by omega)
      rw [upd_fn3_0] at hn
      have hn' := Lib.hid hn
      clear hn
      refine wpOp_step rfl (fun K' hK' => ?_)
      go_simp
      have hk := hK' _ _ (hK [.pointer (some ⟨w'.heap.size, 0, none⟩), p1, p2, d0, k0, d1, k1, d2, k2] _ ⟨_, _, _, _, _, _, _, _, _, rfl, hn'.out⟩)
      revert hk
      go_simp
    | 7, _ =>
      have hn := hJ'.out.setPtr (k := 1) (by omega)
      rw [upd_fn3_1] at hn
      have hn' := Lib.hid hn
      clear hn
      refine wpOp_step rfl (fun K' hK' => ?_)
      go_simp
      have hk := hK' _ _ (hK [p0, .pointer (some ⟨w'.heap.size, 0, none⟩), p2, d0, k0, d1, k1, d2, k2] _ ⟨_, _, _, _, _, _, _, _, _, rfl, hn'.out⟩)
      revert hk
      go_simp
    | 8, _ =>
      have hn := hJ'.out.setPtr (k := 2) (by omega)
      rw [upd_fn3_2] at hn
      have hn' := Lib.hid hn
      clear hn
      refine wpOp_step rfl (fun K' hK' => ?_)
      go_simp
      have hk := hK' _ _ (hK [p0, p1, .pointer (some ⟨w'.heap.size, 0, none⟩), d0, k0, d1, k1, d2, k2] _ ⟨_, _, _, _, _, _, _, _, _, rfl, hn'.out⟩)
      revert hk
      go_simp
  · intro vs w' hI
    obtain ⟨p0, p1, p2, d0, k0, d1, k1, d2, k2, rfl, hJ⟩ := hI
    obtain ⟨va, hk0, hLa⟩ := hJ.lent 0 (by omega) (by decide)
    obtain ⟨vh, hk1, hLh⟩ := hJ.lent 1 (by omega) (by decide)
    obtain ⟨vb, hk2, hLb⟩ := hJ.lent 2 (by omega) (by decide)
    obtain ⟨b0, hp0, hpb0, hpc0⟩ := hJ.ptr 0 (by omega) (by decide)
    obtain ⟨b1, hp1, hpb1, hpc1⟩ := hJ.ptr 1 (by omega) (by decide)
    obtain ⟨b2, hp2, hpb2, hpc2⟩ := hJ.ptr 2 (by omega) (by decide)
    have q01 := hJ.apart 0 1 (by omega) (by omega) (by omega) (by decide) (by decide)
    have q02 := hJ.apart 0 2 (by omega) (by omega) (by omega) (by decide) (by decide)
    have q12 := hJ.apart 1 2 (by omega) (by omega) (by omega) (by decide) (by decide)
    have l01 := hJ.lentApart 0 1 (by omega) (by omega) (by omega) (by decide) (by decide)
    have l02 := hJ.lentApart 0 2 (by omega) (by omega) (by omega) (by decide) (by decide)
    have l12 := hJ.lentApart 1 2 (by omega) (by omega) (by omega) (by decide) (by decide)
    have hEw := E2.out.below hJ.B
    have hBw := Lib.hid (below_then hB2.out hJ.B hB2.out.size)
    have hOw := Lib.hid (hW22.out.below hJ.B)
    have hzw := hJ.B.size
    have hk0' : k0 = .agg #[.int .i64 (nf 0), va] := hk0
    have hk1' : k1 = .agg #[.int .i64 (nf 1), vh] := hk1
    have hk2' : k2 = .agg #[.int .i64 (nf 2), vb] := hk2
    have hp0' : p0 = .pointer (some ⟨b0, 0, none⟩) := hp0
    have hp1' : p1 = .pointer (some ⟨b1, 0, none⟩) := hp1
    have hp2' : p2 = .pointer (some ⟨b2, 0, none⟩) := hp2
    clear hk0 hk1 hk2 hp0 hp1 hp2 hJ
    subst hk0' hk1' hk2' hp0' hp1' hp2'
    have n01 : b0 ≠ b1 := fun e => q01 (by rw [e]; rfl)
    have n02 : b0 ≠ b2 := fun e => q02 (by rw [e]; rfl)
    have n12 : b1 ≠ b2 := fun e => q12 (by rw [e]; rfl)
    have m01 := Lib.hid (show va.ownBlock ≠ vh.ownBlock from l01)
    have m02 := Lib.hid (show va.ownBlock ≠ vb.ownBlock from l02)
    have m12 := Lib.hid (show vh.ownBlock ≠ vb.ownBlock from l12)
    clear q01 q02 q12 l01 l02 l12
    have g0 := (Array.getElem?_eq_some_iff.1 hpc0).1
    have g1 := (Array.getElem?_eq_some_iff.1 hpc1).1
    have g2 := (Array.getElem?_eq_some_iff.1 hpc2).1
    have hpc := Lib.hid (⟨hpc0, hpc1, hpc2⟩ : w'.heap[b0]? = some (.cells #[.int .i64 0, .slice none 0 0] 27 (0, 0)) ∧ w'.heap[b1]? = some (.cells #[.int .i64 0, .slice none 0 0] 27 (0, 0)) ∧ w'.heap[b2]? = some (.cells #[.int .i64 0, .slice none 0 0] 27 (0, 0)))
    have c00 : w'.cell? ⟨b0, 0, none⟩ = some (.int .i64 0) := by rw [cell_of_row w' b0 0 _ 27 (0, 0) hpc0]; rfl
    have c01 : w'.cell? ⟨b0, 1, none⟩ = some (.slice none 0 0) := by rw [cell_of_row w' b0 1 _ 27 (0, 0) hpc0]; rfl
    have c10 : w'.cell? ⟨b1, 0, none⟩ = some (.int .i64 0) := by rw [cell_of_row w' b1 0 _ 27 (0, 0) hpc1]; rfl
    have c11 : w'.cell? ⟨b1, 1, none⟩ = some (.slice none 0 0) := by rw [cell_of_row w' b1 1 _ 27 (0, 0) hpc1]; rfl
    have c20 : w'.cell? ⟨b2, 0, none⟩ = some (.int .i64 0) := by rw [cell_of_row w' b2 0 _ 27 (0, 0) hpc2]; rfl
    have c21 : w'.cell? ⟨b2, 1, none⟩ = some (.slice none 0 0) := by rw [cell_of_row w' b2 1 _ 27 (0, 0) hpc2]; rfl
    have f0 : ∀ o, w'.frozen? ⟨b0, o, none⟩ = false := fun o => frozen_of_row w' b0 o _ 27 hpc0
    have f1 : ∀ o, w'.frozen? ⟨b1, o, none⟩ = false := fun o => frozen_of_row w' b1 o _ 27 hpc1
    have f2 : ∀ o, w'.frozen? ⟨b2, o, none⟩ = false := fun o => frozen_of_row w' b2 o _ 27 hpc2
    have n10 := Ne.symm n01
    have n20 := Ne.symm n02
    have n21 := Ne.symm n12
    have hEw' := Lib.hid hEw
    have hEl := Lib.hid (fun x hx => E2.out.lt (x := x) hx)
    clear hpc0 hpc1 hpc2 hEw
    have hLa' := Lib.hid hLa
    have hLh' := Lib.hid hLh
    have hLb' := Lib.hid hLb
    obtain ⟨ga, ca, rfl, hoa⟩ := hLa
    obtain ⟨gh, ch, rfl, hoh⟩ := hLh
    obtain ⟨gb, cb, rfl, hob⟩ := hLb
    clear hoa hoh hob
    simp only [List.drop_succ_cons, List.drop_zero]
    go_simp
    go_upto_region 3 with fail
    obtain ⟨W3, hW3⟩ : ∃ W3, W3 = ((((((w'.setCell ⟨b0, 0, none⟩ (.int .i64 (nf 0))).setCell ⟨b0, 1, none⟩ (.slice (some ⟨ga, 0, none⟩) (R 0).length ca)).setCell ⟨b1, 0, none⟩ (.int .i64 (nf 1))).setCell ⟨b1, 1, none⟩ (.slice (some ⟨gh, 0, none⟩) (R 1).length ch)).setCell ⟨b2, 0, none⟩ (.int .i64 (nf 2))).setCell ⟨b2, 1, none⟩ (.slice (some ⟨gb, 0, none⟩) (R 2).length cb)) := ⟨_, rfl⟩
    have E3 := hEw'.out.three hpc.out.1 hpc.out.2.1 hpc.out.2.2 n01 n02 n12 (.int .i64 (nf 0)) (.slice (some ⟨ga, 0, none⟩) (R 0).length ca) (.int .i64 (nf 1)) (.slice (some ⟨gh, 0, none⟩) (R 1).length ch) (.int .i64 (nf 2)) (.slice (some ⟨gb, 0, none⟩) (R 2).length cb) (fun x hx => by have := hEl.out x hx; omega)
    have G3 : ∀ (v : Value), v.ownBlock ≠ some b0 → v.ownBlock ≠ some b1 → v.ownBlock ≠ some b2 → ∀ base L xs, w'.ownsRow base 33 1 v L xs → W3.ownsRow base 33 1 v L xs := fun v h0 h1 h2 base L xs ho => by
      rw [hW3]
      exact ((ho.kept (set2_grown _ b0 _ _) (.inr h0)).kept (set2_grown _ b1 _ _) (.inr h1)).kept (set2_grown _ b2 _ _) (.inr h2)
    have hB3 : Below w.heap.size w W3 := by
      rw [hW3]
      have z0 := hBw.out.size
      have hb2s := hB2.out.size
      refine Below.grown (Below.grown (Below.grown hBw.out (set2_grown _ b0 _ _) z0 ?_) (set2_grown _ b1 _ _) ?_ ?_) (set2_grown _ b2 _ _) ?_ ?_
      · intro k hk; injection hk with hk; omega
      · simp; omega
      · intro k hk; injection hk with hk; omega
      · simp; omega
      · intro k hk; injection hk with hk; omega
    rw [← hW3] at E3
    have S3 : St w W3 ([(b2, #[.int .i64 (nf 2), .slice (some ⟨gb, 0, none⟩) (R 2).length cb], 27), (b1, #[.int .i64 (nf 1), .slice (some ⟨gh, 0, none⟩) (R 1).length ch], 27), (b0, #[.int .i64 (nf 0), .slice (some ⟨ga, 0, none⟩) (R 0).length ca], 27), (w1.heap.size, #[.int .i64 LN, .slice adw Lw Lw], 27), (w.heap.size + 1 + 1 + 1, #[.int .i64 (nf 2), .slice a2 (R 2).length c2], 27), (w.heap.size + 1 + 1, #[.int .i64 (nf 1), .slice a1 (R 1).length c1], 27), (w.heap.size + 1, #[.int .i64 (nf 0), .slice a0 (R 0).length c0], 27), (w.heap.size, #[.int .u8 hood, .int .u16 (born : Int), .int .u16 (stay : Int)], 24)]) W2.heap.size (.slice (some ⟨ga, 0, none⟩) (R 0).length ca) (R 0) (.slice (some ⟨gh, 0, none⟩) (R 1).length ch) (R 1) (.slice (some ⟨gb, 0, none⟩) (R 2).length cb) (R 2) [(0, .slice adw Lw Lw, ws)] := by
      refine ⟨E3, ?_, ?_, ?_, ?_, hB3⟩
      · have hn := fun b cs fz hb => hLa'.out.ne (b := b) (T := 27) (cs := cs) (fz := fz) hb (by decide)
        have h0 := hn _ _ _ hpc.out.1
        have h1 := hn _ _ _ hpc.out.2.1
        have h2 := hn _ _ _ hpc.out.2.2
        obtain ⟨g, c, e, ho⟩ := hLa'.out
        exact ⟨g, c, e, G3 _ (by cases e; exact h0) (by cases e; exact h1) (by cases e; exact h2) _ _ _ ho⟩
      · have hn := fun b cs fz hb => hLh'.out.ne (b := b) (T := 27) (cs := cs) (fz := fz) hb (by decide)
        have h0 := hn _ _ _ hpc.out.1
        have h1 := hn _ _ _ hpc.out.2.1
        have h2 := hn _ _ _ hpc.out.2.2
        obtain ⟨g, c, e, ho⟩ := hLh'.out
        exact ⟨g, c, e, G3 _ (by cases e; exact h0) (by cases e; exact h1) (by cases e; exact h2) _ _ _ ho⟩
      · have hn := fun b cs fz hb => hLb'.out.ne (b := b) (T := 27) (cs := cs) (fz := fz) hb (by decide)
        have h0 := hn _ _ _ hpc.out.1
        have h1 := hn _ _ _ hpc.out.2.1
        have h2 := hn _ _ _ hpc.out.2.2
        obtain ⟨g, c, e, ho⟩ := hLb'.out
        exact ⟨g, c, e, G3 _ (by cases e; exact h0) (by cases e; exact h1) (by cases e; exact h2) _ _ _ ho⟩
      · intro x hx
        simp at hx
        subst hx
        have hn : ∀ b, W2.heap.size ≤ b → (Value.slice adw Lw Lw).ownBlock ≠ some b := fun b hb e => by have := (hW22.out.1.lt b e).2; omega
        exact ⟨G3 _ (hn _ hpb0) (hn _ hpb1) (hn _ hpb2) _ _ _ hOw.out.1, hOw.out.2⟩
    have hz3 : W3.heap.size = w'.heap.size := by rw [hW3]; simp
    have S3' := Lib.hid S3
    rw [← hW3]
    clear G3 hB3 E3 S3 hW3 c00 c01 c10 c11 c20 c21 f0 f1 f2
    have y1 : W3.cell? ⟨b2, 0, none⟩ = some (.int .i64 (nf 2)) := S3'.out.env.cell (cs := #[.int .i64 (nf 2), .slice (some ⟨gb, 0, none⟩) (R 2).length cb]) (T := 27) (by simp) rfl
    have y2 : W3.cell? ⟨b2, 1, none⟩ = some (.slice (some ⟨gb, 0, none⟩) (R 2).length cb) := S3'.out.env.cell (cs := #[.int .i64 (nf 2), .slice (some ⟨gb, 0, none⟩) (R 2).length cb]) (T := 27) (by simp) rfl
    have y3 : W3.cell? ⟨b1, 0, none⟩ = some (.int .i64 (nf 1)) := S3'.out.env.cell (cs := #[.int .i64 (nf 1), .slice (some ⟨gh, 0, none⟩) (R 1).length ch]) (T := 27) (by simp) rfl
    have y4 : W3.cell? ⟨b1, 1, none⟩ = some (.slice (some ⟨gh, 0, none⟩) (R 1).length ch) := S3'.out.env.cell (cs := #[.int .i64 (nf 1), .slice (some ⟨gh, 0, none⟩) (R 1).length ch]) (T := 27) (by simp) rfl
    have y5 : W3.cell? ⟨b0, 0, none⟩ = some (.int .i64 (nf 0)) := S3'.out.env.cell (cs := #[.int .i64 (nf 0), .slice (some ⟨ga, 0, none⟩) (R 0).length ca]) (T := 27) (by simp) rfl
    have y6 : W3.cell? ⟨b0, 1, none⟩ = some (.slice (some ⟨ga, 0, none⟩) (R 0).length ca) := S3'.out.env.cell (cs := #[.int .i64 (nf 0), .slice (some ⟨ga, 0, none⟩) (R 0).length ca]) (T := 27) (by simp) rfl
    have y7 : W3.cell? ⟨w.heap.size, 0, none⟩ = some (.int .u8 hood) := S3'.out.env.cell (cs := #[.int .u8 hood, .int .u16 (born : Int), .int .u16 (stay : Int)]) (T := 24) (by simp) rfl
    have y8 : W3.cell? ⟨w.heap.size, 1, none⟩ = some (.int .u16 (born : Int)) := S3'.out.env.cell (cs := #[.int .u8 hood, .int .u16 (born : Int), .int .u16 (stay : Int)]) (T := 24) (by simp) rfl
    have y9 : W3.cell? ⟨w.heap.size, 2, none⟩ = some (.int .u16 (stay : Int)) := S3'.out.env.cell (cs := #[.int .u8 hood, .int .u16 (born : Int), .int .u16 (stay : Int)]) (T := 24) (by simp) rfl
    go_wp2_with fail
    refine (K2.out _ (fn3 (.slice (some ⟨ga, 0, none⟩) (R 0).length ca) (.slice (some ⟨gh, 0, none⟩) (R 1).length ch) (.slice (some ⟨gb, 0, none⟩) (R 2).length cb)) (fun j hj => by
      match j, hj with
      | 0, _ => exact S3'.out.la.has
      | 1, _ => exact S3'.out.lh.has
      | 2, _ => exact S3'.out.lb.has)).mono ?_
    rintro e W4 ⟨v1, rfl, hP, hb⟩
    obtain ⟨adp, hvp⟩ := hP.2
    rw [hL'.out] at hvp
    subst hvp
    have S4 := Lib.hid ((S3'.out.below hb).addOwn hP)
    have hP1 := Lib.hid hP.1.lt
    have hzW4 : W3.heap.size ≤ W4.heap.size := hb.size
    clear hb hP y1 y2 y3 y4 y5 y6 y7 y8 y9
    go_upto_region 4 with fail
    obtain ⟨W5, hW5⟩ : ∃ W5, W5 = W4.alloc (.cells #[.int .i64 LN, .slice adp Lw Lw] 27) := ⟨_, rfl⟩
    have S50 := S4.out.alloc #[.int .i64 LN, .slice adp Lw Lw] 27 (by decide)
    have hz5 : W5.heap.size = W4.heap.size + 1 := by rw [hW5]; simp
    rw [← hW5] at S50 ⊢
    have S5 := Lib.hid S50
    clear S50 hW5
    have y10 : W5.cell? ⟨b2, 0, none⟩ = some (.int .i64 (nf 2)) := S5.out.env.cell (cs := #[.int .i64 (nf 2), .slice (some ⟨gb, 0, none⟩) (R 2).length cb]) (T := 27) (by simp) rfl
    have y11 : W5.cell? ⟨b2, 1, none⟩ = some (.slice (some ⟨gb, 0, none⟩) (R 2).length cb) := S5.out.env.cell (cs := #[.int .i64 (nf 2), .slice (some ⟨gb, 0, none⟩) (R 2).length cb]) (T := 27) (by simp) rfl
    have y12 : W5.cell? ⟨b1, 0, none⟩ = some (.int .i64 (nf 1)) := S5.out.env.cell (cs := #[.int .i64 (nf 1), .slice (some ⟨gh, 0, none⟩) (R 1).length ch]) (T := 27) (by simp) rfl
    have y13 : W5.cell? ⟨b1, 1, none⟩ = some (.slice (some ⟨gh, 0, none⟩) (R 1).length ch) := S5.out.env.cell (cs := #[.int .i64 (nf 1), .slice (some ⟨gh, 0, none⟩) (R 1).length ch]) (T := 27) (by simp) rfl
    have y14 : W5.cell? ⟨b0, 0, none⟩ = some (.int .i64 (nf 0)) := S5.out.env.cell (cs := #[.int .i64 (nf 0), .slice (some ⟨ga, 0, none⟩) (R 0).length ca]) (T := 27) (by simp) rfl
    have y15 : W5.cell? ⟨b0, 1, none⟩ = some (.slice (some ⟨ga, 0, none⟩) (R 0).length ca) := S5.out.env.cell (cs := #[.int .i64 (nf 0), .slice (some ⟨ga, 0, none⟩) (R 0).length ca]) (T := 27) (by simp) rfl
    have y16 : W5.cell? ⟨w.heap.size, 0, none⟩ = some (.int .u8 hood) := S5.out.env.cell (cs := #[.int .u8 hood, .int .u16 (born : Int), .int .u16 (stay : Int)]) (T := 24) (by simp) rfl
    have y17 : W5.cell? ⟨w.heap.size, 1, none⟩ = some (.int .u16 (born : Int)) := S5.out.env.cell (cs := #[.int .u8 hood, .int .u16 (born : Int), .int .u16 (stay : Int)]) (T := 24) (by simp) rfl
    have y18 : W5.cell? ⟨w.heap.size, 2, none⟩ = some (.int .u16 (stay : Int)) := S5.out.env.cell (cs := #[.int .u8 hood, .int .u16 (born : Int), .int .u16 (stay : Int)]) (T := 24) (by simp) rfl
    go_wp2_with fail
    refine (K2.out _ (fn3 (.slice (some ⟨ga, 0, none⟩) (R 0).length ca) (.slice (some ⟨gh, 0, none⟩) (R 1).length ch) (.slice (some ⟨gb, 0, none⟩) (R 2).length cb)) (fun j hj => by
      match j, hj with
      | 0, _ => exact S5.out.la.has
      | 1, _ => exact S5.out.lh.has
      | 2, _ => exact S5.out.lb.has)).mono ?_
    rintro e W6 ⟨v2, rfl, hP, hb⟩
    obtain ⟨adq, hvp⟩ := hP.2
    rw [hL'.out] at hvp
    subst hvp
    have S6 := Lib.hid ((S5.out.below hb).addOwn hP)
    have hP2 := Lib.hid hP.1.lt
    have hzW6 : W5.heap.size ≤ W6.heap.size := hb.size
    clear hb hP y10 y11 y12 y13 y14 y15 y16 y17 y18
    go_upto_region 5 with fail
    obtain ⟨W7, hW7⟩ : ∃ W7, W7 = W6.alloc (.cells #[.int .i64 LN, .slice adq Lw Lw] 27) := ⟨_, rfl⟩
    have S70 := S6.out.alloc #[.int .i64 LN, .slice adq Lw Lw] 27 (by decide)
    have hz7 : W7.heap.size = W6.heap.size + 1 := by rw [hW7]; simp
    rw [← hW7] at S70 ⊢
    have S7 := Lib.hid S70
    clear S70 hW7
    have hr0 := hR'.out 0 (by omega)
    rw [hE.out.1] at hr0
    have hr0' := Lib.hid hr0
    clear hr0
    have hr1 := hR'.out 1 (by omega)
    rw [hE.out.2.1] at hr1
    have hr1' := Lib.hid hr1
    clear hr1
    have hr2 := hR'.out 2 (by omega)
    rw [hE.out.2.2] at hr2
    have hr2' := Lib.hid hr2
    clear hr2
    have y19 : W7.cell? ⟨W4.heap.size, 0, none⟩ = some (.int .i64 LN) := S7.out.env.cell (cs := #[.int .i64 LN, .slice adp Lw Lw]) (T := 27) (by simp) rfl
    have y20 : W7.cell? ⟨W4.heap.size, 1, none⟩ = some (.slice adp Lw Lw) := S7.out.env.cell (cs := #[.int .i64 LN, .slice adp Lw Lw]) (T := 27) (by simp) rfl
    have y21 : W7.cell? ⟨w1.heap.size, 0, none⟩ = some (.int .i64 LN) := S7.out.env.cell (cs := #[.int .i64 LN, .slice adw Lw Lw]) (T := 27) (by simp) rfl
    have y22 : W7.cell? ⟨w1.heap.size, 1, none⟩ = some (.slice adw Lw Lw) := S7.out.env.cell (cs := #[.int .i64 LN, .slice adw Lw Lw]) (T := 27) (by simp) rfl
    go_wp2_with fail
    refine (same15 LN (by rw [hL'.out]; omega) (S7.out.own (W3.heap.size, .slice adp Lw Lw, ws) (by simp)).has (S7.out.own (0, .slice adw Lw Lw, ws) (by simp)).has).mono ?_
    rintro e W8 ⟨rfl, hb⟩
    have S8 := Lib.hid (S7.out.below hb)
    have hzW8 : W7.heap.size ≤ W8.heap.size := hb.size
    clear hb y19 y20 y21 y22
    have y23 : W8.cell? ⟨W6.heap.size, 0, none⟩ = some (.int .i64 LN) := S8.out.env.cell (cs := #[.int .i64 LN, .slice adq Lw Lw]) (T := 27) (by simp) rfl
    have y24 : W8.cell? ⟨W6.heap.size, 1, none⟩ = some (.slice adq Lw Lw) := S8.out.env.cell (cs := #[.int .i64 LN, .slice adq Lw Lw]) (T := 27) (by simp) rfl
    have y25 : W8.cell? ⟨w1.heap.size, 0, none⟩ = some (.int .i64 LN) := S8.out.env.cell (cs := #[.int .i64 LN, .slice adw Lw Lw]) (T := 27) (by simp) rfl
    have y26 : W8.cell? ⟨w1.heap.size, 1, none⟩ = some (.slice adw Lw Lw) := S8.out.env.cell (cs := #[.int .i64 LN, .slice adw Lw Lw]) (T := 27) (by simp) rfl
    go_wp2_with fail
    refine (same15 LN (by rw [hL'.out]; omega) (S8.out.own (W5.heap.size, .slice adq Lw Lw, ws) (by simp)).has (S8.out.own (0, .slice adw Lw Lw, ws) (by simp)).has).mono ?_
    rintro e W9 ⟨rfl, hb⟩
    have S9 := Lib.hid (S8.out.below hb)
    have hzW9 : W8.heap.size ≤ W9.heap.size := hb.size
    clear hb y23 y24 y25 y26
    have y27 : W9.cell? ⟨b0, 0, none⟩ = some (.int .i64 (nf 0)) := S9.out.env.cell (cs := #[.int .i64 (nf 0), .slice (some ⟨ga, 0, none⟩) (R 0).length ca]) (T := 27) (by simp) rfl
    have y28 : W9.cell? ⟨b0, 1, none⟩ = some (.slice (some ⟨ga, 0, none⟩) (R 0).length ca) := S9.out.env.cell (cs := #[.int .i64 (nf 0), .slice (some ⟨ga, 0, none⟩) (R 0).length ca]) (T := 27) (by simp) rfl
    have y29 : W9.cell? ⟨w.heap.size + 1, 0, none⟩ = some (.int .i64 (nf 0)) := S9.out.env.cell (cs := #[.int .i64 (nf 0), .slice a0 (R 0).length c0]) (T := 27) (by simp) rfl
    have y30 : W9.cell? ⟨w.heap.size + 1, 1, none⟩ = some (.slice a0 (R 0).length c0) := S9.out.env.cell (cs := #[.int .i64 (nf 0), .slice a0 (R 0).length c0]) (T := 27) (by simp) rfl
    go_wp2_with fail
    refine (kept16 (nf 0) (hlen'.out 0 (by omega)) (hr0'.out.keptB S9.out.bel (Nat.le_refl _)) S9.out.la).mono ?_
    rintro e W10 ⟨rfl, hb⟩
    have S10 := Lib.hid (S9.out.below hb)
    have hzW10 : W9.heap.size ≤ W10.heap.size := hb.size
    clear hb y27 y28 y29 y30
    have y31 : W10.cell? ⟨b1, 0, none⟩ = some (.int .i64 (nf 1)) := S10.out.env.cell (cs := #[.int .i64 (nf 1), .slice (some ⟨gh, 0, none⟩) (R 1).length ch]) (T := 27) (by simp) rfl
    have y32 : W10.cell? ⟨b1, 1, none⟩ = some (.slice (some ⟨gh, 0, none⟩) (R 1).length ch) := S10.out.env.cell (cs := #[.int .i64 (nf 1), .slice (some ⟨gh, 0, none⟩) (R 1).length ch]) (T := 27) (by simp) rfl
    have y33 : W10.cell? ⟨w.heap.size + 1 + 1, 0, none⟩ = some (.int .i64 (nf 1)) := S10.out.env.cell (cs := #[.int .i64 (nf 1), .slice a1 (R 1).length c1]) (T := 27) (by simp) rfl
    have y34 : W10.cell? ⟨w.heap.size + 1 + 1, 1, none⟩ = some (.slice a1 (R 1).length c1) := S10.out.env.cell (cs := #[.int .i64 (nf 1), .slice a1 (R 1).length c1]) (T := 27) (by simp) rfl
    go_wp2_with fail
    refine (kept16 (nf 1) (hlen'.out 1 (by omega)) (hr1'.out.keptB S10.out.bel (Nat.le_refl _)) S10.out.lh).mono ?_
    rintro e W11 ⟨rfl, hb⟩
    have S11 := Lib.hid (S10.out.below hb)
    have hzW11 : W10.heap.size ≤ W11.heap.size := hb.size
    clear hb y31 y32 y33 y34
    have y35 : W11.cell? ⟨b2, 0, none⟩ = some (.int .i64 (nf 2)) := S11.out.env.cell (cs := #[.int .i64 (nf 2), .slice (some ⟨gb, 0, none⟩) (R 2).length cb]) (T := 27) (by simp) rfl
    have y36 : W11.cell? ⟨b2, 1, none⟩ = some (.slice (some ⟨gb, 0, none⟩) (R 2).length cb) := S11.out.env.cell (cs := #[.int .i64 (nf 2), .slice (some ⟨gb, 0, none⟩) (R 2).length cb]) (T := 27) (by simp) rfl
    have y37 : W11.cell? ⟨w.heap.size + 1 + 1 + 1, 0, none⟩ = some (.int .i64 (nf 2)) := S11.out.env.cell (cs := #[.int .i64 (nf 2), .slice a2 (R 2).length c2]) (T := 27) (by simp) rfl
    have y38 : W11.cell? ⟨w.heap.size + 1 + 1 + 1, 1, none⟩ = some (.slice a2 (R 2).length c2) := S11.out.env.cell (cs := #[.int .i64 (nf 2), .slice a2 (R 2).length c2]) (T := 27) (by simp) rfl
    go_wp2_with fail
    refine (kept16 (nf 2) (hlen'.out 2 (by omega)) (hr2'.out.keptB S11.out.bel (Nat.le_refl _)) S11.out.lb).mono ?_
    rintro e W12 ⟨rfl, hb⟩
    have S12 := Lib.hid (S11.out.below hb)
    have hzW12 : W11.heap.size ≤ W12.heap.size := hb.size
    clear hb y35 y36 y37 y38
    have hga := S3'.out.la.at
    have hgh := S3'.out.lh.at
    have hgb := S3'.out.lb.at
    have hSp := Lib.hid (S12.out.own (W3.heap.size, .slice adp Lw Lw, ws) (by simp))
    have hSq := Lib.hid (S12.out.own (W5.heap.size, .slice adq Lw Lw, ws) (by simp))
    have hz12 : w.heap.size ≤ W3.heap.size := by have := S3'.out.bel.size; omega
    have S13 := Lib.hid ((⟨S12.out.env, S12.out.la, S12.out.lh, S12.out.lb, fun x hx => by
      simp at hx
      rcases hx with rfl | rfl
      · exact hSp.out
      · exact hSq.out, S12.out.bel⟩ : St w W12 [(W6.heap.size, #[.int .i64 LN, .slice adq Lw Lw], 27), (W4.heap.size, #[.int .i64 LN, .slice adp Lw Lw], 27), (b2, #[.int .i64 (nf 2), .slice (some ⟨gb, 0, none⟩) (R 2).length cb], 27), (b1, #[.int .i64 (nf 1), .slice (some ⟨gh, 0, none⟩) (R 1).length ch], 27), (b0, #[.int .i64 (nf 0), .slice (some ⟨ga, 0, none⟩) (R 0).length ca], 27), (w1.heap.size, #[.int .i64 LN, .slice adw Lw Lw], 27), (w.heap.size + 1 + 1 + 1, #[.int .i64 (nf 2), .slice a2 (R 2).length c2], 27), (w.heap.size + 1 + 1, #[.int .i64 (nf 1), .slice a1 (R 1).length c1], 27), (w.heap.size + 1, #[.int .i64 (nf 0), .slice a0 (R 0).length c0], 27), (w.heap.size, #[.int .u8 hood, .int .u16 (born : Int), .int .u16 (stay : Int)], 24)] W2.heap.size (.slice (some ⟨ga, 0, none⟩) (R 0).length ca) (R 0) (.slice (some ⟨gh, 0, none⟩) (R 1).length ch) (R 1) (.slice (some ⟨gb, 0, none⟩) (R 2).length cb) (R 2) [(W3.heap.size, .slice adp Lw Lw, ws), (W5.heap.size, .slice adq Lw Lw, ws)]))
    go_wp2
    go_loopw [18] (fun i wx => WRel w [(W6.heap.size, #[.int .i64 LN, .slice adq Lw Lw], 27), (W4.heap.size, #[.int .i64 LN, .slice adp Lw Lw], 27), (b2, #[.int .i64 (nf 2), .slice (some ⟨gb, 0, none⟩) (R 2).length cb], 27), (b1, #[.int .i64 (nf 1), .slice (some ⟨gh, 0, none⟩) (R 1).length ch], 27), (b0, #[.int .i64 (nf 0), .slice (some ⟨ga, 0, none⟩) (R 0).length ca], 27), (w1.heap.size, #[.int .i64 LN, .slice adw Lw Lw], 27), (w.heap.size + 1 + 1 + 1, #[.int .i64 (nf 2), .slice a2 (R 2).length c2], 27), (w.heap.size + 1 + 1, #[.int .i64 (nf 1), .slice a1 (R 1).length c1], 27), (w.heap.size + 1, #[.int .i64 (nf 0), .slice a0 (R 0).length c0], 27), (w.heap.size, #[.int .u8 hood, .int .u16 (born : Int), .int .u16 (stay : Int)], 24)] W2.heap.size (.slice (some ⟨ga, 0, none⟩) (R 0).length ca) (R 0) (.slice (some ⟨gh, 0, none⟩) (R 1).length ch) (R 1) (.slice (some ⟨gb, 0, none⟩) (R 2).length cb) (R 2) [(W5.heap.size, .slice adq Lw Lw, ws)] (fun j => 100 + j) W3.heap.size (.slice adp Lw Lw) ws i wx) (fun i _ => Lw - (intOf i).toNat)
    case atStart => exact ⟨0, by omega, by go_num, by rw [markW_zero]; exact S13.out⟩
    case round =>
      obtain ⟨k, hk, rfl, hSt⟩ := hrel
      have hSt' := Lib.hid hSt
      rw [hL'.out] at hk
      clear hSt
      by_cases hlt : k < Lw
      · obtain ⟨gp, hgp⟩ : ∃ gp, adp = some ⟨gp, 0, none⟩ := by
          obtain ⟨g, e⟩ := hSp.out.some (by rw [hL'.out]; omega)
          injection e with e
          exact ⟨g, e⟩
        subst hgp
        have hg1 := hP1.out gp rfl
        have x0 : wr.cell? ⟨W4.heap.size, 1, none⟩ = some (.slice (some ⟨gp, 0, none⟩) Lw Lw) := hSt'.out.env.cell (cs := #[.int .i64 LN, .slice (some ⟨gp, 0, none⟩) Lw Lw]) (T := 27) (by simp) rfl
        have hOp : OwnW wr W3.heap.size (.slice (some ⟨gp, 0, none⟩) Lw Lw) (markW (fun j => 100 + j) ws k) := hSt'.out.own (W3.heap.size, .slice (some ⟨gp, 0, none⟩) Lw Lw, markW (fun j => 100 + j) ws k) (by simp)
        have x1 := hOp.cellk (k := k) (by rw [markW_len, hL'.out]; exact hlt)
        have x2 : wr.frozen? ⟨gp, k, none⟩ = false := hOp.frz k
        have S' := Lib.hid (hSt'.out.mark (k := k) (100 + k) (ob_ne (by omega)) (ob_ne (by omega)) (ob_ne (by omega)) (fun x hx => by
          simp at hx
          subst hx
          intro e
          have := hP2.out gp e
          omega) (by omega))
        have hm := Lib.hid (markW_succ (fun j => 100 + j) ws (k := k) (by rw [hL'.out]; exact hlt))
        clear hOp
        go_wp2
        refine ⟨⟨k + 1, by rw [hL'.out]; omega, by go_num, by rw [hm.out]; exact S'.out⟩, by simp [intOf]; omega⟩
      · obtain rfl : Lw = k := by omega
        clear hlt
        have x0 : wr.cell? ⟨W4.heap.size, 1, none⟩ = some (.slice adp Lw Lw) := hSt'.out.env.cell (cs := #[.int .i64 LN, .slice adp Lw Lw]) (T := 27) (by simp) rfl
        have S14 := Lib.hid hSt'.out.swap
        go_wp2
        clear x0
        rename World => Wp
        go_loopw [19] (fun i wx => WRel w [(W6.heap.size, #[.int .i64 LN, .slice adq Lw Lw], 27), (W4.heap.size, #[.int .i64 LN, .slice adp Lw Lw], 27), (b2, #[.int .i64 (nf 2), .slice (some ⟨gb, 0, none⟩) (R 2).length cb], 27), (b1, #[.int .i64 (nf 1), .slice (some ⟨gh, 0, none⟩) (R 1).length ch], 27), (b0, #[.int .i64 (nf 0), .slice (some ⟨ga, 0, none⟩) (R 0).length ca], 27), (w1.heap.size, #[.int .i64 LN, .slice adw Lw Lw], 27), (w.heap.size + 1 + 1 + 1, #[.int .i64 (nf 2), .slice a2 (R 2).length c2], 27), (w.heap.size + 1 + 1, #[.int .i64 (nf 1), .slice a1 (R 1).length c1], 27), (w.heap.size + 1, #[.int .i64 (nf 0), .slice a0 (R 0).length c0], 27), (w.heap.size, #[.int .u8 hood, .int .u16 (born : Int), .int .u16 (stay : Int)], 24)] W2.heap.size (.slice (some ⟨ga, 0, none⟩) (R 0).length ca) (R 0) (.slice (some ⟨gh, 0, none⟩) (R 1).length ch) (R 1) (.slice (some ⟨gb, 0, none⟩) (R 2).length cb) (R 2) [(W3.heap.size, .slice adp Lw Lw, markW (fun j => 100 + j) ws Lw)] (fun j => 200 + j) W5.heap.size (.slice adq Lw Lw) ws i wx) (fun i _ => Lw - (intOf i).toNat)
        case atStart => exact ⟨0, by omega, by go_num, by rw [markW_zero]; exact S14.out⟩
        case round =>
          obtain ⟨k, hk, rfl, hSt⟩ := hrel
          have hSt' := Lib.hid hSt
          rw [hL'.out] at hk
          clear hSt
          by_cases hlt : k < Lw
          · obtain ⟨gq, hgq⟩ : ∃ gq, adq = some ⟨gq, 0, none⟩ := by
              obtain ⟨g, e⟩ := hSq.out.some (by rw [hL'.out]; omega)
              injection e with e
              exact ⟨g, e⟩
            subst hgq
            have hg1 := hP2.out gq rfl
            have x0 : wr.cell? ⟨W6.heap.size, 1, none⟩ = some (.slice (some ⟨gq, 0, none⟩) Lw Lw) := hSt'.out.env.cell (cs := #[.int .i64 LN, .slice (some ⟨gq, 0, none⟩) Lw Lw]) (T := 27) (by simp) rfl
            have hOq : OwnW wr W5.heap.size (.slice (some ⟨gq, 0, none⟩) Lw Lw) (markW (fun j => 200 + j) ws k) := hSt'.out.own (W5.heap.size, .slice (some ⟨gq, 0, none⟩) Lw Lw, markW (fun j => 200 + j) ws k) (by simp)
            have x1 := hOq.cellk (k := k) (by rw [markW_len, hL'.out]; exact hlt)
            have x2 : wr.frozen? ⟨gq, k, none⟩ = false := hOq.frz k
            have S' := Lib.hid (hSt'.out.mark (k := k) (200 + k) (ob_ne (by omega)) (ob_ne (by omega)) (ob_ne (by omega)) (fun x hx => by
              simp at hx
              subst hx
              intro e
              have := hP1.out gq e
              omega) (by omega))
            have hm := Lib.hid (markW_succ (fun j => 200 + j) ws (k := k) (by rw [hL'.out]; exact hlt))
            clear hOq
            go_wp2
            refine ⟨⟨k + 1, by rw [hL'.out]; omega, by go_num, by rw [hm.out]; exact S'.out⟩, by simp [intOf]; omega⟩
          · obtain rfl : Lw = k := by omega
            clear hlt
            have x0 : wr.cell? ⟨W4.heap.size, 1, none⟩ = some (.slice adp Lw Lw) := hSt'.out.env.cell (cs := #[.int .i64 LN, .slice adp Lw Lw]) (T := 27) (by simp) rfl
            have x1 : wr.cell? ⟨W6.heap.size, 1, none⟩ = some (.slice adq Lw Lw) := hSt'.out.env.cell (cs := #[.int .i64 LN, .slice adq Lw Lw]) (T := 27) (by simp) rfl
            have S15 := Lib.hid hSt'.out
            go_wp2
            go_quiet (fail)
            obtain ⟨Wd, hWd⟩ : ∃ Wd, Wd = wr.drewN nq := ⟨_, rfl⟩
            have S160 := S15.out.below (below_drewN (Below.refl _ wr) nq)
            rw [← hWd] at S160 ⊢
            have S16 := Lib.hid S160
            have S16b := S160.bel.size
            have hWp : W3.heap.size ≤ Wd.heap.size := by have := S160.env.lt (x := (W4.heap.size, #[.int .i64 LN, .slice adp Lw Lw], 27)) (by simp); omega
            have hWq : W5.heap.size ≤ Wd.heap.size := by have := S160.env.lt (x := (W6.heap.size, #[.int .i64 LN, .slice adq Lw Lw], 27)) (by simp); omega
            clear S160 hWd x0 x1
            go_wp2
            go_loopw [20, 22] (fun v i wx => ARel Wd (.slice adp Lw Lw) (markW (fun j => 100 + j) ws Lw) 300 v i wx) (fun _ i _ => 9 - (intOf i).toNat)
            case atStart => exact ⟨0, by omega, by go_num, Below.refl _ _, .inl ⟨rfl, rfl⟩⟩
            case round =>
              obtain ⟨k, hk, rfl, hB, hc⟩ := hrel
              by_cases hlt : k < 9
              · obtain ⟨v', w', hrun, hB', hown'⟩ := arel_step (X := 300 + (k : Int)) (S16.out.own (W3.heap.size, .slice adp Lw Lw, markW (fun j => 100 + j) ws Lw) (by simp)) (by omega) hB hc hlt (by rw [markW_len, hL'.out]; omega) (by omega)
                have hrun' := Lib.hid hrun
                have hB2' := Lib.hid hB'
                have hown2 := Lib.hid hown'
                clear hrun hB' hown' hB hc
                go_wp2_with (first
                  | (at_builtin; refine wpList_append_run rfl _ _ 25 rfl rfl rfl hrun'.out ?_)
                  | go_in)
                exact ⟨⟨k + 1, by omega, by go_num, hB2'.out, .inr hown2.out⟩, by simp [intOf]; omega⟩
              · obtain rfl : k = 9 := by omega
                clear hlt
                have HM := Lib.hid hc
                have BHM := Lib.hid hB
                clear hB hc
                rename World => Wm
                have hMo : Hid (Wm.ownsRow Wd.heap.size 33 1 _ (((markW (fun j => 100 + j) ws Lw)).length + 9) (((markW (fun j => 100 + j) ws Lw) ++ marks 300 9).map wv)) := (HM.out.resolve_left (by omega))
                have hMs := hMo.out.form (by omega)
                obtain ⟨gm, cm, hvm, hgm1, hgm2⟩ := hMs
                rw [markW_len, hL'.out] at hvm hMo
                subst hvm
                have S17 := Lib.hid (S16.out.below BHM.out)
                have hzm : Wd.heap.size ≤ Wm.heap.size := BHM.out.size
                clear HM
                go_wp2
                go_loopw [21, 23] (fun v i wx => ARel Wm (.slice adq Lw Lw) (markW (fun j => 200 + j) ws Lw) 400 v i wx) (fun _ i _ => 9 - (intOf i).toNat)
                case atStart => exact ⟨0, by omega, by go_num, Below.refl _ _, .inl ⟨rfl, rfl⟩⟩
                case round =>
                  obtain ⟨k, hk, rfl, hB, hc⟩ := hrel
                  by_cases hlt : k < 9
                  · obtain ⟨v', w', hrun, hB', hown'⟩ := arel_step (X := 400 + (k : Int)) (S17.out.own (W5.heap.size, .slice adq Lw Lw, markW (fun j => 200 + j) ws Lw) (by simp)) (by omega) hB hc hlt (by rw [markW_len, hL'.out]; omega) (by omega)
                    have hrun' := Lib.hid hrun
                    have hB2' := Lib.hid hB'
                    have hown2 := Lib.hid hown'
                    clear hrun hB' hown' hB hc
                    go_wp2_with (first
                      | (at_builtin; refine wpList_append_run rfl _ _ 25 rfl rfl rfl hrun'.out ?_)
                      | go_in)
                    exact ⟨⟨k + 1, by omega, by go_num, hB2'.out, .inr hown2.out⟩, by simp [intOf]; omega⟩
                  · obtain rfl : k = 9 := by omega
                    clear hlt
                    have HK := Lib.hid hc
                    have BHK := Lib.hid hB
                    clear hB hc
                    rename World => Wk
                    have hKo : Hid (Wk.ownsRow Wm.heap.size 33 1 _ (((markW (fun j => 200 + j) ws Lw)).length + 9) (((markW (fun j => 200 + j) ws Lw) ++ marks 400 9).map wv)) := (HK.out.resolve_left (by omega))
                    have hKs := hKo.out.form (by omega)
                    obtain ⟨gk, ck, hvk, hgk1, hgk2⟩ := hKs
                    rw [markW_len, hL'.out] at hvk hKo
                    subst hvk
                    have S18 := Lib.hid (S17.out.below BHK.out)
                    have hMo2 := Lib.hid (own_below hMo.out BHK.out)
                    have hzk : Wm.heap.size ≤ Wk.heap.size := BHK.out.size
                    clear HK
                    go_wp2
                    go_loopw [24] (fun i wx => RRel Wk Lw i wx) (fun i _ => Lw - (intOf i).toNat)
                    case atStart => exact ⟨0, by omega, by go_num, Below.refl _ _⟩
                    case round =>
                      obtain ⟨k, hk, rfl, hB⟩ := hrel
                      have hB' := Lib.hid hB
                      have S19 := Lib.hid (S18.out.below hB)
                      clear hB
                      by_cases hlt : k < Lw
                      · obtain ⟨gp, hgp⟩ : ∃ gp, adp = some ⟨gp, 0, none⟩ := by
                          obtain ⟨g, e⟩ := hSp.out.some (by rw [hL'.out]; omega)
                          injection e with e
                          exact ⟨g, e⟩
                        subst hgp
                        obtain ⟨gq, hgq⟩ : ∃ gq, adq = some ⟨gq, 0, none⟩ := by
                          obtain ⟨g, e⟩ := hSq.out.some (by rw [hL'.out]; omega)
                          injection e with e
                          exact ⟨g, e⟩
                        subst hgq
                        have x0 : wr.cell? ⟨W4.heap.size, 1, none⟩ = some (.slice (some ⟨gp, 0, none⟩) Lw Lw) := S19.out.env.cell (cs := #[.int .i64 LN, .slice (some ⟨gp, 0, none⟩) Lw Lw]) (T := 27) (by simp) rfl
                        have x1 : wr.cell? ⟨W6.heap.size, 1, none⟩ = some (.slice (some ⟨gq, 0, none⟩) Lw Lw) := S19.out.env.cell (cs := #[.int .i64 LN, .slice (some ⟨gq, 0, none⟩) Lw Lw]) (T := 27) (by simp) rfl
                        have hOp : OwnW wr W3.heap.size (.slice (some ⟨gp, 0, none⟩) Lw Lw) (markW (fun j => 100 + j) ws Lw) := S19.out.own (W3.heap.size, .slice (some ⟨gp, 0, none⟩) Lw Lw, markW (fun j => 100 + j) ws Lw) (by simp)
                        have hOq : OwnW wr W5.heap.size (.slice (some ⟨gq, 0, none⟩) Lw Lw) (markW (fun j => 200 + j) ws Lw) := S19.out.own (W5.heap.size, .slice (some ⟨gq, 0, none⟩) Lw Lw, markW (fun j => 200 + j) ws Lw) (by simp)
                        have x2 := hOp.cellk (k := k) (by rw [markW_len, hL'.out]; exact hlt)
                        have x3 := hOq.cellk (k := k) (by rw [markW_len, hL'.out]; exact hlt)
                        rw [markW_get _ _ (by rw [hL'.out]; exact hlt), if_pos hlt] at x2 x3
                        have x4 := (own_below hMo2.out hB'.out).cellAt k (by omega)
                        have x5 := (own_below hKo.out hB'.out).cellAt k (by omega)
                        rw [marked_low _ _ _ (by rw [markW_len, hL'.out]; exact hlt), markW_get _ _ (by rw [hL'.out]; exact hlt), if_pos hlt] at x4 x5
                        have hkI : (0 : Int) ≤ (k : Int) := by omega
                        have hkL : (k : Int) < (Lw : Int) := by omega
                        have hkL9 : (k : Int) < (Lw : Int) + 9 := by omega
                        clear hOp hOq
                        rw [show ((100 + k : Nat) : Int) = 100 + (k : Int) from by omega] at x2 x4
                        rw [show ((200 + k : Nat) : Int) = 200 + (k : Int) from by omega] at x3 x5
                        have q1 : IntKind.i64.wrap (100 + (k : Int)) = 100 + (k : Int) := IntWalk.i64_in _ (by omega)
                        have q2 : IntKind.i64.wrap (200 + (k : Int)) = 200 + (k : Int) := IntWalk.i64_in _ (by omega)
                        have q3 : IntKind.u64.wrap (100 + (k : Int)) = 100 + (k : Int) := by rw [IntKind.wrap_u64]; omega
                        have q4 : IntKind.u64.wrap (200 + (k : Int)) = 200 + (k : Int) := by rw [IntKind.wrap_u64]; omega
                        go_wp2
                        go_quiet (fail)
                        clear q1 q2 q3 q4
                        have hBn := Lib.hid (below_drewN hB'.out nq)
                        go_wp2
                        exact ⟨⟨k + 1, by omega, by go_num, hBn.out⟩, by simp [intOf]; omega⟩
                      · obtain rfl : Lw = k := by omega
                        clear hlt
                        have x0 : wr.cell? ⟨W4.heap.size, 1, none⟩ = some (.slice adp Lw Lw) := S19.out.env.cell (cs := #[.int .i64 LN, .slice adp Lw Lw]) (T := 27) (by simp) rfl
                        have hMo3 := Lib.hid (own_below hMo2.out hB'.out)
                        have hKo3 := Lib.hid (own_below hKo.out hB'.out)
                        go_wp2
                        clear x0
                        rename World => Wj
                        go_loopw [25] (fun i wx => RRel Wj 9 i wx) (fun i _ => 9 - (intOf i).toNat)
                        case atStart => exact ⟨0, by omega, by go_num, Below.refl _ _⟩
                        case round =>
                          obtain ⟨k, hk, rfl, hB⟩ := hrel
                          have hB2' := Lib.hid hB
                          have S20 := Lib.hid (S19.out.below hB)
                          clear hB
                          by_cases hlt : k < 9
                          · have x0 : wr.cell? ⟨W4.heap.size, 1, none⟩ = some (.slice adp Lw Lw) := S20.out.env.cell (cs := #[.int .i64 LN, .slice adp Lw Lw]) (T := 27) (by simp) rfl
                            have x1 : wr.cell? ⟨W6.heap.size, 1, none⟩ = some (.slice adq Lw Lw) := S20.out.env.cell (cs := #[.int .i64 LN, .slice adq Lw Lw]) (T := 27) (by simp) rfl
                            have x4 := (own_below hMo3.out hB2'.out).cellAt (Lw + k) (by omega)
                            have x5 := (own_below hKo3.out hB2'.out).cellAt (Lw + k) (by omega)
                            rw [marked_high _ _ _ Lw (by rw [markW_len, hL'.out]) hlt] at x4 x5
                            rw [show ((300 + k : Nat) : Int) = 300 + (k : Int) from by omega] at x4
                            rw [show ((400 + k : Nat) : Int) = 400 + (k : Int) from by omega] at x5
                            have hkI : (0 : Int) ≤ (Lw : Int) + (k : Int) := by omega
                            have hkL9 : (Lw : Int) + (k : Int) < (Lw : Int) + 9 := by omega
                            have hto : ((Lw : Int) + (k : Int)).toNat = Lw + k := by omega
                            go_wp2
                            exact ⟨⟨k + 1, by omega, by go_num, hB2'.out⟩, by simp [intOf]; omega⟩
                          · obtain rfl : k = 9 := by omega
                            clear hlt
                            rename World => Wi
                            have y39 : Wi.cell? ⟨b0, 0, none⟩ = some (.int .i64 (nf 0)) := S20.out.env.cell (cs := #[.int .i64 (nf 0), .slice (some ⟨ga, 0, none⟩) (R 0).length ca]) (T := 27) (by simp) rfl
                            have y40 : Wi.cell? ⟨b0, 1, none⟩ = some (.slice (some ⟨ga, 0, none⟩) (R 0).length ca) := S20.out.env.cell (cs := #[.int .i64 (nf 0), .slice (some ⟨ga, 0, none⟩) (R 0).length ca]) (T := 27) (by simp) rfl
                            have y41 : Wi.cell? ⟨w.heap.size + 1, 0, none⟩ = some (.int .i64 (nf 0)) := S20.out.env.cell (cs := #[.int .i64 (nf 0), .slice a0 (R 0).length c0]) (T := 27) (by simp) rfl
                            have y42 : Wi.cell? ⟨w.heap.size + 1, 1, none⟩ = some (.slice a0 (R 0).length c0) := S20.out.env.cell (cs := #[.int .i64 (nf 0), .slice a0 (R 0).length c0]) (T := 27) (by simp) rfl
                            go_wp2_with fail
                            refine (kept16 (nf 0) (hlen'.out 0 (by omega)) (hr0'.out.keptB S20.out.bel (Nat.le_refl _)) S20.out.la).mono ?_
                            rintro e W21 ⟨rfl, hb⟩
                            have S21 := Lib.hid (S20.out.below hb)
                            have hzW21 : Wi.heap.size ≤ W21.heap.size := hb.size
                            clear hb y39 y40 y41 y42
                            have y43 : W21.cell? ⟨b1, 0, none⟩ = some (.int .i64 (nf 1)) := S21.out.env.cell (cs := #[.int .i64 (nf 1), .slice (some ⟨gh, 0, none⟩) (R 1).length ch]) (T := 27) (by simp) rfl
                            have y44 : W21.cell? ⟨b1, 1, none⟩ = some (.slice (some ⟨gh, 0, none⟩) (R 1).length ch) := S21.out.env.cell (cs := #[.int .i64 (nf 1), .slice (some ⟨gh, 0, none⟩) (R 1).length ch]) (T := 27) (by simp) rfl
                            have y45 : W21.cell? ⟨w.heap.size + 1 + 1, 0, none⟩ = some (.int .i64 (nf 1)) := S21.out.env.cell (cs := #[.int .i64 (nf 1), .slice a1 (R 1).length c1]) (T := 27) (by simp) rfl
                            have y46 : W21.cell? ⟨w.heap.size + 1 + 1, 1, none⟩ = some (.slice a1 (R 1).length c1) := S21.out.env.cell (cs := #[.int .i64 (nf 1), .slice a1 (R 1).length c1]) (T := 27) (by simp) rfl
                            go_wp2_with fail
                            refine (kept16 (nf 1) (hlen'.out 1 (by omega)) (hr1'.out.keptB S21.out.bel (Nat.le_refl _)) S21.out.lh).mono ?_
                            rintro e W22 ⟨rfl, hb⟩
                            have S22 := Lib.hid (S21.out.below hb)
                            have hzW22 : W21.heap.size ≤ W22.heap.size := hb.size
                            clear hb y43 y44 y45 y46
                            have y47 : W22.cell? ⟨b2, 0, none⟩ = some (.int .i64 (nf 2)) := S22.out.env.cell (cs := #[.int .i64 (nf 2), .slice (some ⟨gb, 0, none⟩) (R 2).length cb]) (T := 27) (by simp) rfl
                            have y48 : W22.cell? ⟨b2, 1, none⟩ = some (.slice (some ⟨gb, 0, none⟩) (R 2).length cb) := S22.out.env.cell (cs := #[.int .i64 (nf 2), .slice (some ⟨gb, 0, none⟩) (R 2).length cb]) (T := 27) (by simp) rfl
                            have y49 : W22.cell? ⟨w.heap.size + 1 + 1 + 1, 0, none⟩ = some (.int .i64 (nf 2)) := S22.out.env.cell (cs := #[.int .i64 (nf 2), .slice a2 (R 2).length c2]) (T := 27) (by simp) rfl
                            have y50 : W22.cell? ⟨w.heap.size + 1 + 1 + 1, 1, none⟩ = some (.slice a2 (R 2).length c2) := S22.out.env.cell (cs := #[.int .i64 (nf 2), .slice a2 (R 2).length c2]) (T := 27) (by simp) rfl
                            go_wp2_with fail
                            refine (kept16 (nf 2) (hlen'.out 2 (by omega)) (hr2'.out.keptB S22.out.bel (Nat.le_refl _)) S22.out.lb).mono ?_
                            rintro e W23 ⟨rfl, hb⟩
                            have S23 := Lib.hid (S22.out.below hb)
                            have hzW23 : W22.heap.size ≤ W23.heap.size := hb.size
                            clear hb y47 y48 y49 y50
                            have S24 := Lib.hid ((⟨S23.out.env, S23.out.la, S23.out.lh, S23.out.lb, (fun x hx => by cases hx), S23.out.bel⟩ : St w W23 [(W6.heap.size, #[.int .i64 LN, .slice adq Lw Lw], 27), (W4.heap.size, #[.int .i64 LN, .slice adp Lw Lw], 27), (b2, #[.int .i64 (nf 2), .slice (some ⟨gb, 0, none⟩) (R 2).length cb], 27), (b1, #[.int .i64 (nf 1), .slice (some ⟨gh, 0, none⟩) (R 1).length ch], 27), (b0, #[.int .i64 (nf 0), .slice (some ⟨ga, 0, none⟩) (R 0).length ca], 27), (w1.heap.size, #[.int .i64 LN, .slice adw Lw Lw], 27), (w.heap.size + 1 + 1 + 1, #[.int .i64 (nf 2), .slice a2 (R 2).length c2], 27), (w.heap.size + 1 + 1, #[.int .i64 (nf 1), .slice a1 (R 1).length c1], 27), (w.heap.size + 1, #[.int .i64 (nf 0), .slice a0 (R 0).length c0], 27), (w.heap.size, #[.int .u8 hood, .int .u16 (born : Int), .int .u16 (stay : Int)], 24)] W2.heap.size (.slice (some ⟨ga, 0, none⟩) (R 0).length ca) (R 0) (.slice (some ⟨gh, 0, none⟩) (R 1).length ch) (R 1) (.slice (some ⟨gb, 0, none⟩) (R 2).length cb) (R 2) []))
                            have hl1 := hlen'.out 1 (by omega)
                            go_wp2
                            go_loopw [26] (fun i wx => HRel w [(W6.heap.size, #[.int .i64 LN, .slice adq Lw Lw], 27), (W4.heap.size, #[.int .i64 LN, .slice adp Lw Lw], 27), (b2, #[.int .i64 (nf 2), .slice (some ⟨gb, 0, none⟩) (R 2).length cb], 27), (b1, #[.int .i64 (nf 1), .slice (some ⟨gh, 0, none⟩) (R 1).length ch], 27), (b0, #[.int .i64 (nf 0), .slice (some ⟨ga, 0, none⟩) (R 0).length ca], 27), (w1.heap.size, #[.int .i64 LN, .slice adw Lw Lw], 27), (w.heap.size + 1 + 1 + 1, #[.int .i64 (nf 2), .slice a2 (R 2).length c2], 27), (w.heap.size + 1 + 1, #[.int .i64 (nf 1), .slice a1 (R 1).length c1], 27), (w.heap.size + 1, #[.int .i64 (nf 0), .slice a0 (R 0).length c0], 27), (w.heap.size, #[.int .u8 hood, .int .u16 (born : Int), .int .u16 (stay : Int)], 24)] W2.heap.size (.slice (some ⟨ga, 0, none⟩) (R 0).length ca) (R 0) (.slice (some ⟨gh, 0, none⟩) (R 1).length ch) (R 1) (.slice (some ⟨gb, 0, none⟩) (R 2).length cb) (R 2) [] i wx) (fun i _ => (R 1).length - (intOf i).toNat)
                            case atStart => exact ⟨0, by omega, by go_num, by rw [markW_zero]; exact S24.out⟩
                            case round =>
                              obtain ⟨k, hk, rfl, hSt⟩ := hrel
                              have hSt' := Lib.hid hSt
                              clear hSt
                              have x0 : wr.cell? ⟨b1, 1, none⟩ = some (.slice (some ⟨gh, 0, none⟩) (R 1).length ch) := hSt'.out.env.cell (cs := #[.int .i64 (nf 1), .slice (some ⟨gh, 0, none⟩) (R 1).length ch]) (T := 27) (by simp) rfl
                              by_cases hlt : k < (R 1).length
                              · have hcf := hSt'.out.lh.cellk (k := k) (by rw [markW_len]; exact hlt)
                                have x1 := hcf.1
                                have x2 := hcf.2
                                have S' : St w (wr.setCell ⟨gh, k, none⟩ (.int .u64 0)) [(W6.heap.size, #[.int .i64 LN, .slice adq Lw Lw], 27), (W4.heap.size, #[.int .i64 LN, .slice adp Lw Lw], 27), (b2, #[.int .i64 (nf 2), .slice (some ⟨gb, 0, none⟩) (R 2).length cb], 27), (b1, #[.int .i64 (nf 1), .slice (some ⟨gh, 0, none⟩) (R 1).length ch], 27), (b0, #[.int .i64 (nf 0), .slice (some ⟨ga, 0, none⟩) (R 0).length ca], 27), (w1.heap.size, #[.int .i64 LN, .slice adw Lw Lw], 27), (w.heap.size + 1 + 1 + 1, #[.int .i64 (nf 2), .slice a2 (R 2).length c2], 27), (w.heap.size + 1 + 1, #[.int .i64 (nf 1), .slice a1 (R 1).length c1], 27), (w.heap.size + 1, #[.int .i64 (nf 0), .slice a0 (R 0).length c0], 27), (w.heap.size, #[.int .u8 hood, .int .u16 (born : Int), .int .u16 (stay : Int)], 24)] W2.heap.size (.slice (some ⟨ga, 0, none⟩) (R 0).length ca) (R 0) (.slice (some ⟨gh, 0, none⟩) (R 1).length ch) ((markW (fun _ => 0) (R 1) k).set k 0) (.slice (some ⟨gb, 0, none⟩) (R 2).length cb) (R 2) [] := hSt'.out.markH 0 (by rw [markW_len]; exact hlt) m01.out (fun e => m12.out e.symm) (fun x hx => by cases hx) (by omega)
                                have S'' := Lib.hid S'
                                have hm := Lib.hid (markW_succ (fun _ => 0) (R 1) (k := k) hlt)
                                clear hcf S'
                                go_wp2
                                exact ⟨⟨k + 1, by omega, by go_num, by rw [hm.out]; exact S''.out⟩, by simp [intOf]; omega⟩
                              · have hke : k = (R 1).length := by omega
                                subst hke
                                clear hlt
                                have h64z := zero_64 (R 1)
                                have hz6 : ∀ j, j < 3 → W64 (fn3 (R 0) (markW (fun _ => 0) (R 1) (R 1).length) (R 2) j) := fun j hj => by
                                  match j, hj with
                                  | 0, _ => exact h64'.out 0 (by omega)
                                  | 1, _ => exact h64z
                                  | 2, _ => exact h64'.out 2 (by omega)
                                have KF1 := Lib.hid (fun W (v : Nat → Value) (h : ∀ j, j < 3 → HasW W (v j) (fn3 (R 0) (markW (fun _ => 0) (R 1) (R 1).length) (R 2) j)) => (rline12 (hood := hood) hb1 hs1 nf v _ h hz6).mono (fun e w' h => lineIs_out h))
                                have KF2 := Lib.hid (fun W (v : Nat → Value) (h : ∀ j, j < 3 → HasW W (v j) (fn3 (R 0) (markW (fun _ => 0) (R 1) (R 1).length) (R 2) j)) => (pline14 (hood := hood) hb1 hs1 nf v _ h hz6).mono (fun e w' h => lineIs_out h))
                                have hF1 : Hid (∀ W, St w W [(W6.heap.size, #[.int .i64 LN, .slice adq Lw Lw], 27), (W4.heap.size, #[.int .i64 LN, .slice adp Lw Lw], 27), (b2, #[.int .i64 (nf 2), .slice (some ⟨gb, 0, none⟩) (R 2).length cb], 27), (b1, #[.int .i64 (nf 1), .slice (some ⟨gh, 0, none⟩) (R 1).length ch], 27), (b0, #[.int .i64 (nf 0), .slice (some ⟨ga, 0, none⟩) (R 0).length ca], 27), (w1.heap.size, #[.int .i64 LN, .slice adw Lw Lw], 27), (w.heap.size + 1 + 1 + 1, #[.int .i64 (nf 2), .slice a2 (R 2).length c2], 27), (w.heap.size + 1 + 1, #[.int .i64 (nf 1), .slice a1 (R 1).length c1], 27), (w.heap.size + 1, #[.int .i64 (nf 0), .slice a0 (R 0).length c0], 27), (w.heap.size, #[.int .u8 hood, .int .u16 (born : Int), .int .u16 (stay : Int)], 24)] W2.heap.size (.slice (some ⟨ga, 0, none⟩) (R 0).length ca) (R 0) (.slice (some ⟨gh, 0, none⟩) (R 1).length ch) (markW (fun _ => 0) (R 1) (R 1).length) (.slice (some ⟨gb, 0, none⟩) (R 2).length cb) (R 2) [] → ∀ j, j < 3 → HasW W (fn3 (.slice a0 (R 0).length c0) (.slice (some ⟨gh, 0, none⟩) (R 1).length ch) (.slice a2 (R 2).length c2) j) (fn3 (R 0) (markW (fun _ => 0) (R 1) (R 1).length) (R 2) j)) := fun W hS j hj => by
                                  match j, hj with
                                  | 0, _ => exact hr0'.out.keptB hS.bel (Nat.le_refl _)
                                  | 1, _ => exact hS.lh.has
                                  | 2, _ => exact hr2'.out.keptB hS.bel (Nat.le_refl _)
                                have hws2 := @lineW_le hood born stay (nf 0) (nf 1) (nf 2) (fn3 (R 0) (markW (fun _ => 0) (R 1) (R 1).length) (R 2) 0) (fn3 (R 0) (markW (fun _ => 0) (R 1) (R 1).length) (R 2) 1) (fn3 (R 0) (markW (fun _ => 0) (R 1) (R 1).length) (R 2) 2)
                                generalize lineN hood born stay (nf 0) (nf 1) (nf 2) (fn3 (R 0) (markW (fun _ => 0) (R 1) (R 1).length) (R 2) 0) (fn3 (R 0) (markW (fun _ => 0) (R 1) (R 1).length) (R 2) 1) (fn3 (R 0) (markW (fun _ => 0) (R 1) (R 1).length) (R 2) 2) = LN2 at *
                                generalize lineE hood born stay (nf 0) (nf 1) (nf 2) (fn3 (R 0) (markW (fun _ => 0) (R 1) (R 1).length) (R 2) 0) (fn3 (R 0) (markW (fun _ => 0) (R 1) (R 1).length) (R 2) 1) (fn3 (R 0) (markW (fun _ => 0) (R 1) (R 1).length) (R 2) 2) = LE2 at *
                                generalize lineW hood born stay (nf 0) (nf 1) (nf 2) (fn3 (R 0) (markW (fun _ => 0) (R 1) (R 1).length) (R 2) 0) (fn3 (R 0) (markW (fun _ => 0) (R 1) (R 1).length) (R 2) 1) (fn3 (R 0) (markW (fun _ => 0) (R 1) (R 1).length) (R 2) 2) = ws2 at *
                                generalize hL2 : ws2.length = Lw2 at *
                                have hL2' := Lib.hid hL2
                                clear hL2 h64z hz6
                                have y51 : wr.cell? ⟨w.heap.size, 0, none⟩ = some (.int .u8 hood) := hSt'.out.env.cell (cs := #[.int .u8 hood, .int .u16 (born : Int), .int .u16 (stay : Int)]) (T := 24) (by simp) rfl
                                have y52 : wr.cell? ⟨w.heap.size, 1, none⟩ = some (.int .u16 (born : Int)) := hSt'.out.env.cell (cs := #[.int .u8 hood, .int .u16 (born : Int), .int .u16 (stay : Int)]) (T := 24) (by simp) rfl
                                have y53 : wr.cell? ⟨w.heap.size, 2, none⟩ = some (.int .u16 (stay : Int)) := hSt'.out.env.cell (cs := #[.int .u8 hood, .int .u16 (born : Int), .int .u16 (stay : Int)]) (T := 24) (by simp) rfl
                                have y54 : wr.cell? ⟨b1, 0, none⟩ = some (.int .i64 (nf 1)) := hSt'.out.env.cell (cs := #[.int .i64 (nf 1), .slice (some ⟨gh, 0, none⟩) (R 1).length ch]) (T := 27) (by simp) rfl
                                have y56 : wr.cell? ⟨w.heap.size + 1, 0, none⟩ = some (.int .i64 (nf 0)) := hSt'.out.env.cell (cs := #[.int .i64 (nf 0), .slice a0 (R 0).length c0]) (T := 27) (by simp) rfl
                                have y57 : wr.cell? ⟨w.heap.size + 1, 1, none⟩ = some (.slice a0 (R 0).length c0) := hSt'.out.env.cell (cs := #[.int .i64 (nf 0), .slice a0 (R 0).length c0]) (T := 27) (by simp) rfl
                                have y58 : wr.cell? ⟨w.heap.size + 1 + 1 + 1, 0, none⟩ = some (.int .i64 (nf 2)) := hSt'.out.env.cell (cs := #[.int .i64 (nf 2), .slice a2 (R 2).length c2]) (T := 27) (by simp) rfl
                                have y59 : wr.cell? ⟨w.heap.size + 1 + 1 + 1, 1, none⟩ = some (.slice a2 (R 2).length c2) := hSt'.out.env.cell (cs := #[.int .i64 (nf 2), .slice a2 (R 2).length c2]) (T := 27) (by simp) rfl
                                go_wp2_with fail
                                refine (KF1.out _ (fn3 (.slice a0 (R 0).length c0) (.slice (some ⟨gh, 0, none⟩) (R 1).length ch) (.slice a2 (R 2).length c2)) (hF1.out _ hSt'.out)).mono ?_
                                rintro e W30 ⟨vo, rfl, hP, hb⟩
                                obtain ⟨ado, hvp⟩ := hP.2
                                rw [hL2'.out] at hvp
                                subst hvp
                                have S30 := Lib.hid ((hSt'.out.below hb).addOwn hP)
                                have hz30 : wr.heap.size ≤ W30.heap.size := hb.size
                                clear hb hP x0 y51 y52 y53 y54 y56 y57 y58 y59
                                go_upto_region 41 with fail
                                obtain ⟨W31, hW31⟩ : ∃ W31, W31 = W30.alloc (.cells #[.int .i64 LN2, .slice ado Lw2 Lw2] 27) := ⟨_, rfl⟩
                                have S310 := S30.out.alloc #[.int .i64 LN2, .slice ado Lw2 Lw2] 27 (by decide)
                                have hz31 : W31.heap.size = W30.heap.size + 1 := by rw [hW31]; simp
                                rw [← hW31] at S310 ⊢
                                have S31 := Lib.hid S310
                                clear S310 hW31
                                have y60 : W31.cell? ⟨w.heap.size, 0, none⟩ = some (.int .u8 hood) := S31.out.env.cell (cs := #[.int .u8 hood, .int .u16 (born : Int), .int .u16 (stay : Int)]) (T := 24) (by simp) rfl
                                have y61 : W31.cell? ⟨w.heap.size, 1, none⟩ = some (.int .u16 (born : Int)) := S31.out.env.cell (cs := #[.int .u8 hood, .int .u16 (born : Int), .int .u16 (stay : Int)]) (T := 24) (by simp) rfl
                                have y62 : W31.cell? ⟨w.heap.size, 2, none⟩ = some (.int .u16 (stay : Int)) := S31.out.env.cell (cs := #[.int .u8 hood, .int .u16 (born : Int), .int .u16 (stay : Int)]) (T := 24) (by simp) rfl
                                have y63 : W31.cell? ⟨b0, 0, none⟩ = some (.int .i64 (nf 0)) := S31.out.env.cell (cs := #[.int .i64 (nf 0), .slice (some ⟨ga, 0, none⟩) (R 0).length ca]) (T := 27) (by simp) rfl
                                have y64 : W31.cell? ⟨b0, 1, none⟩ = some (.slice (some ⟨ga, 0, none⟩) (R 0).length ca) := S31.out.env.cell (cs := #[.int .i64 (nf 0), .slice (some ⟨ga, 0, none⟩) (R 0).length ca]) (T := 27) (by simp) rfl
                                have y65 : W31.cell? ⟨b1, 0, none⟩ = some (.int .i64 (nf 1)) := S31.out.env.cell (cs := #[.int .i64 (nf 1), .slice (some ⟨gh, 0, none⟩) (R 1).length ch]) (T := 27) (by simp) rfl
                                have y66 : W31.cell? ⟨b1, 1, none⟩ = some (.slice (some ⟨gh, 0, none⟩) (R 1).length ch) := S31.out.env.cell (cs := #[.int .i64 (nf 1), .slice (some ⟨gh, 0, none⟩) (R 1).length ch]) (T := 27) (by simp) rfl
                                have y67 : W31.cell? ⟨b2, 0, none⟩ = some (.int .i64 (nf 2)) := S31.out.env.cell (cs := #[.int .i64 (nf 2), .slice (some ⟨gb, 0, none⟩) (R 2).length cb]) (T := 27) (by simp) rfl
                                have y68 : W31.cell? ⟨b2, 1, none⟩ = some (.slice (some ⟨gb, 0, none⟩) (R 2).length cb) := S31.out.env.cell (cs := #[.int .i64 (nf 2), .slice (some ⟨gb, 0, none⟩) (R 2).length cb]) (T := 27) (by simp) rfl
                                go_wp2_with fail
                                refine (KF2.out _ (fn3 (.slice (some ⟨ga, 0, none⟩) (R 0).length ca) (.slice (some ⟨gh, 0, none⟩) (R 1).length ch) (.slice (some ⟨gb, 0, none⟩) (R 2).length cb)) (fun j hj => by
                                  match j, hj with
                                  | 0, _ => exact S31.out.la.has
                                  | 1, _ => exact S31.out.lh.has
                                  | 2, _ => exact S31.out.lb.has)).mono ?_
                                rintro e W32 ⟨vr, rfl, hP, hb⟩
                                obtain ⟨adr, hvp⟩ := hP.2
                                rw [hL2'.out] at hvp
                                subst hvp
                                have S32 := Lib.hid ((S31.out.below hb).addOwn hP)
                                have hz32 : W31.heap.size ≤ W32.heap.size := hb.size
                                clear hb hP y60 y61 y62 y63 y64 y65 y66 y67 y68
                                go_upto_region 42 with fail
                                obtain ⟨W33, hW33⟩ : ∃ W33, W33 = W32.alloc (.cells #[.int .i64 LN2, .slice adr Lw2 Lw2] 27) := ⟨_, rfl⟩
                                have S330 := S32.out.alloc #[.int .i64 LN2, .slice adr Lw2 Lw2] 27 (by decide)
                                rw [← hW33] at S330 ⊢
                                have S33 := Lib.hid S330
                                clear S330 hW33
                                have y69 : W33.cell? ⟨W32.heap.size, 0, none⟩ = some (.int .i64 LN2) := S33.out.env.cell (cs := #[.int .i64 LN2, .slice adr Lw2 Lw2]) (T := 27) (by simp) rfl
                                have y70 : W33.cell? ⟨W32.heap.size, 1, none⟩ = some (.slice adr Lw2 Lw2) := S33.out.env.cell (cs := #[.int .i64 LN2, .slice adr Lw2 Lw2]) (T := 27) (by simp) rfl
                                have y71 : W33.cell? ⟨W30.heap.size, 0, none⟩ = some (.int .i64 LN2) := S33.out.env.cell (cs := #[.int .i64 LN2, .slice ado Lw2 Lw2]) (T := 27) (by simp) rfl
                                have y72 : W33.cell? ⟨W30.heap.size, 1, none⟩ = some (.slice ado Lw2 Lw2) := S33.out.env.cell (cs := #[.int .i64 LN2, .slice ado Lw2 Lw2]) (T := 27) (by simp) rfl
                                go_wp2_with fail
                                refine (same15 LN2 (by rw [hL2'.out]; omega) (S33.out.own (W31.heap.size, .slice adr Lw2 Lw2, ws2) (by simp)).has (S33.out.own (wr.heap.size, .slice ado Lw2 Lw2, ws2) (by simp)).has).mono ?_
                                rintro e W34 ⟨rfl, hb⟩
                                have S34 := Lib.hid (S33.out.below hb)
                                clear hb y69 y70 y71 y72
                                go_wp2
                                go_ret
                                exact ⟨rfl, S34.out.bel⟩
end Go.Proofs.Ytigghbehnnghnaa
