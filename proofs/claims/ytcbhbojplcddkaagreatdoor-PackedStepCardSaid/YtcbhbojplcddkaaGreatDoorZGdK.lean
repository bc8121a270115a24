import Derived.Test.YtcbhbojplcddkaaGreatDoorZGdJ
import Derived.Deep.RegionWith
import Derived.Deep.CutRange
import Derived.Test.YtcbhbojplcddkaaGreatDoorZPkC
namespace Go.Proofs.YtcbhbojplcddkaaGreatDoor
open Go.RowKit Go.RowBits
set_option linter.unusedSimpArgs false
set_option linter.unusedVariables false

/-! ### ring.asked, ring.Rows -/
section
variable {B E : Nat} {W : World} {fb w h s : Nat} {pk : Bool} {c : Nat → Nat → Nat} {k tn sh : Int}
set_option maxRecDepth 20000 in
set_option maxHeartbeats 4000000 in
theorem asked43 (f : Fld B E W fb w h s pk c) (hk : 0 ≤ k ∧ k < 256) (ht : 0 ≤ tn) (hok : TopoOk k w h tn sh) : Calls Tryz.prog 45 #[topoV k w h tn sh, .pointer (some ⟨fb, 0, none⟩)] W fun e w' => e = .returned (.int .i64 0) ∧ Below W.heap.size W w' := by
  obtain ⟨⟨w1, w2⟩, ⟨h1, h2⟩, _⟩ := f.side
  have K1 := Lib.hid (fun (W' : World) (hb : Below W.heap.size W W') => (f.kept hb).wide)
  have K2 := Lib.hid (fun (W' : World) (hb : Below W.heap.size W W') => (f.kept hb).high)
  have K3 := Lib.hid (fun W' => topo38 (W := w) (H := h) (sh := sh) hk ht W')
  have hok' := Lib.hid hok
  obtain ⟨W2, hW2⟩ : ∃ W2, Hid (W2 = W.alloc (.cells #[.int .u8 k, .int .i64 (w : Int), .int .i64 (h : Int), .int .u8 tn, .int .i64 sh] 26)) := ⟨_, rfl⟩
  have hB2 : Hid (Below W.heap.size W W2) := by rw [hW2.out]; exact below_new _
  have hp2 : Hid (W2.heap[W.heap.size]? = some (.cells #[.int .u8 k, .int .i64 (w : Int), .int .i64 (h : Int), .int .u8 tn, .int .i64 sh] 26 (0, 0))) := by rw [hW2.out]; exact heap_alloc_new W _
  clear f hok
  go_enter Tryz.func45, Tryz.ntmps45
  go_wp2_with fail
  rw [← hW2.out]
  refine (K1.out _ hB2.out).mono ?_
  rintro e wq ⟨rfl, hq⟩
  subst wq
  have p0 : W2.cell? ⟨W.heap.size, 0, none⟩ = some (.int .u8 k) := by rw [cell_of_row W2 _ 0 _ 26 (0, 0) hp2.out]; rfl
  have p1 : W2.cell? ⟨W.heap.size, 1, none⟩ = some (.int .i64 (w : Int)) := by rw [cell_of_row W2 _ 1 _ 26 (0, 0) hp2.out]; rfl
  have p2 : W2.cell? ⟨W.heap.size, 2, none⟩ = some (.int .i64 (h : Int)) := by rw [cell_of_row W2 _ 2 _ 26 (0, 0) hp2.out]; rfl
  have p3 : W2.cell? ⟨W.heap.size, 3, none⟩ = some (.int .u8 tn) := by rw [cell_of_row W2 _ 3 _ 26 (0, 0) hp2.out]; rfl
  have p4 : W2.cell? ⟨W.heap.size, 4, none⟩ = some (.int .i64 sh) := by rw [cell_of_row W2 _ 4 _ 26 (0, 0) hp2.out]; rfl
  have zw : ((w : Int) == 0) = false := by rw [beq_eq_false_iff_ne]; omega
  have zh : ((h : Int) == 0) = false := by rw [beq_eq_false_iff_ne]; omega
  go_wp2_with fail
  refine (K3.out _).mono ?_
  rintro e w3 ⟨r, rfl, hr, hb3⟩
  obtain rfl : r = 0 := hr.2 hok'.out
  have hB3 := Lib.hid (below_then hB2.out hb3 hB2.out.size)
  have q1 := cell_kept hb3 p1
  have q2 := cell_kept hb3 p2
  clear hb3 hr p0 p1 p2 p3 p4
  clear K3
  go_wp2
  go_quiet ((first | (go_at_call 40; exact Calls.quiet_of_same (K1.out _ (below_drewN hB3.out _))) | (go_at_call 42; exact Calls.quiet_of_same (K2.out _ (below_drewN hB3.out _)))))
  go_wp2
  go_ret
  exact ⟨rfl, below_drewN hB3.out _⟩
end
end Go.Proofs.YtcbhbojplcddkaaGreatDoor
namespace Go.Proofs.YtcbhbojplcddkaaGreatDoor
open Go.RowKit Go.RowBits
set_option linter.unusedSimpArgs false
set_option linter.unusedVariables false

/-! ### ring.Rows -/
/-- The bits of one line of the frame. -/
def rowB (k tn sh : Int) (w h : Nat) (c : Nat → Nat → Nat) (y : Nat) : List Bool := ((frameL k tn sh w h c).drop (y * (w + 2))).take (w + 2)
theorem rowB_len {k tn sh : Int} {w h : Nat} {c : Nat → Nat → Nat} {y : Nat} (hy : y < h + 2) : (rowB k tn sh w h c y).length = w + 2 := by
  unfold rowB
  rw [List.length_take, List.length_drop, frameL_len]
  have : (y + 1) * (w + 2) ≤ (h + 2) * (w + 2) := Nat.mul_le_mul_right _ (by omega)
  rw [Nat.add_mul, Nat.one_mul, Nat.mul_comm (h + 2)] at this
  omega
theorem made64' (n : Nat) (h : n ≤ 65600) (W : World) : (Instr.makeSlice 71 (.int .i64 (n : Int)) (.int .i64 (n : Int))).run Tryz.prog W = .ok (.slice (some ⟨W.heap.size, 0, none⟩) n n) (W.alloc (.cells (madeCells #[.int .i64 0, .slice none 0 0] (n * 2)) 58)) := by
  obtain ⟨i, hi, hzz⟩ := Option.map_eq_some_iff.1 info58'
  simp only [Prod.mk.injEq] at hzz
  obtain ⟨hz, hs, hb⟩ := hzz
  have hb' : (i.bytes : Int) * (n : Int) ≤ 281474976710656 := by rw [hb]; omega
  have hr := run_make (P := Tryz.prog) W 71 58 i _ Tryz.underlying71 hi hz .i64 .i64 n n (by omega) (Int.le_refl _) hb' (by omega)
  simp only [Int.toNat_natCast, hs] at hr
  exact hr
def RwRel (k tn sh : Int) (w h : Nat) (c : Nat → Nat → Nat) (L gr : Nat) (W5 : World) (i : Value) (wx : World) : Prop :=
  ∃ (j : Nat) (gs : Nat → Nat), j ≤ h + 2 ∧ i = .int .i64 (j : Int) ∧ wx.heap[gr]? = some (.cells (partP (w + 2) L gs (fun _ => L) (h + 2) j).toArray 58 (0, 0)) ∧ (∀ y, y < j → gr < gs y ∧ WBlk wx (gs y) (pack (rowB k tn sh w h c y))) ∧ Below gr W5 wx
def RowsPost (W : World) (w h : Nat) (rb : Nat → List Bool) (e : Ending) (w' : World) : Prop :=
  ∃ (gr : Nat) (gs : Nat → Nat), e = .returned (.tuple #[.slice (some ⟨gr, 0, none⟩) (h + 2) (h + 2), .int .i64 0]) ∧ W.heap.size ≤ gr ∧ (∀ y, y < h + 2 → W.heap.size ≤ gs y ∧ w'.cell? ⟨gr, y * 2, none⟩ = some (.int .i64 ((w + 2 : Nat) : Int)) ∧ w'.cell? ⟨gr, y * 2 + 1, none⟩ = some (.slice (some ⟨gs y, 0, none⟩) ((w + 65) / 64) ((w + 65) / 64)) ∧ WBlk w' (gs y) (pack (rb y))) ∧ Below W.heap.size W w'
section
variable {B E : Nat} {W : World} {fb w h : Nat} {pk : Bool} {c : Nat → Nat → Nat} {k tn sh : Int}
set_option maxRecDepth 100000 in
set_option maxHeartbeats 8000000 in
theorem rows22 (f : Fld B E W fb w h 2 pk c) (hk : 0 ≤ k ∧ k < 256) (ht : 0 ≤ tn) (hok : TopoOk k w h tn sh) : Calls Tryz.prog 23 #[topoV k w h tn sh, .pointer (some ⟨fb, 0, none⟩)] W (RowsPost W w h (rowB k tn sh w h c)) := by
  obtain ⟨⟨w1, w2⟩, ⟨h1, h2⟩, _, hwh⟩ := f.side
  have K1 := Lib.hid (fun (W' : World) (hb : Below W.heap.size W W') => asked43 (f.kept hb) hk ht hok)
  have K2 := Lib.hid (fun (W' : World) (hb : Below W.heap.size W W') => (f.kept hb).count)
  have K3 := Lib.hid (fun (W' : World) (hb : Below W.heap.size W W') => frame44 (f.kept hb) ht hok)
  obtain ⟨N, hN⟩ : ∃ N, Hid (N = (w + 2) * (h + 2)) := ⟨_, rfl⟩
  have hNb : N ≤ 2000000 := by rw [hN.out, Nat.add_mul, Nat.mul_add]; omega
  have hLl : Hid ((frameL k tn sh w h c).length = N) := by show _ = _; rw [frameL_len]; exact hN.out.symm
  obtain ⟨W2, hW2⟩ : ∃ W2, Hid (W2 = W.alloc (.cells #[.int .u8 k, .int .i64 (w : Int), .int .i64 (h : Int), .int .u8 tn, .int .i64 sh] 26)) := ⟨_, rfl⟩
  have hB2 : Hid (Below W.heap.size W W2) := by rw [hW2.out]; exact below_new _
  have hp2 : Hid (W2.heap[W.heap.size]? = some (.cells #[.int .u8 k, .int .i64 (w : Int), .int .i64 (h : Int), .int .u8 tn, .int .i64 sh] 26 (0, 0))) := by rw [hW2.out]; exact heap_alloc_new W _
  have hcells : Hid (∀ W' : World, Below W2.heap.size W2 W' → W'.cell? ⟨W.heap.size, 0, none⟩ = some (.int .u8 k) ∧ W'.cell? ⟨W.heap.size, 1, none⟩ = some (.int .i64 (w : Int)) ∧ W'.cell? ⟨W.heap.size, 2, none⟩ = some (.int .i64 (h : Int)) ∧ W'.cell? ⟨W.heap.size, 3, none⟩ = some (.int .u8 tn) ∧ W'.cell? ⟨W.heap.size, 4, none⟩ = some (.int .i64 sh)) := fun W' hb => by
    have h3 := (hb.block _ (Array.getElem?_eq_some_iff.1 hp2.out).1).trans hp2.out
    exact ⟨by rw [cell_of_row W' _ 0 _ 26 (0, 0) h3]; rfl, by rw [cell_of_row W' _ 1 _ 26 (0, 0) h3]; rfl, by rw [cell_of_row W' _ 2 _ 26 (0, 0) h3]; rfl, by rw [cell_of_row W' _ 3 _ 26 (0, 0) h3]; rfl, by rw [cell_of_row W' _ 4 _ 26 (0, 0) h3]; rfl⟩
  have hz2 : Hid (W2.heap.size = W.heap.size + 1) := by rw [hW2.out]; show _ = _; simp
  clear f hok hwh
  go_enter Tryz.func23, Tryz.ntmps23
  go_wp2_with fail
  rw [← hW2.out]
  refine (K1.out _ hB2.out).mono ?_
  rintro e w3 ⟨rfl, hb3⟩
  have hb3' := Lib.hid hb3
  have hB3 := Lib.hid (below_then hB2.out hb3 hB2.out.size)
  obtain ⟨p0, p1, p2, p3, p4⟩ := hcells.out w3 hb3
  have K2' := Lib.hid (K2.out _ hB3.out)
  have K3' := Lib.hid (K3.out _ hB3.out)
  clear hb3 K1 K2 K3
  go_wp2_with fail
  refine (K2'.out).mono ?_
  rintro e wq ⟨rfl, hq⟩
  subst wq
  go_wp2_with fail
  refine (K3'.out).mono ?_
  rintro e w4 ⟨gf, rfl, hgf, hfb, hb4⟩
  rw [hLl.out]
  have hfb' := Lib.hid hfb
  have hb4' := Lib.hid hb4
  have hB24 := Lib.hid (below_then hb3'.out hb4 hb3'.out.size)
  have hB4 := Lib.hid (below_then hB3.out hb4 hB3.out.size)
  obtain ⟨q0, q1, q2, q3, q4⟩ := hcells.out w4 hB24.out
  have hgl := hfb.lt
  clear hb4 hfb K2' K3' p0 p1 p2 p3 p4
  have hmk := made64' (h + 2) (by omega)
  have hmk2 : ∀ W, (Instr.makeSlice 71 (.int .i64 ((h : Int) + 2)) (.int .i64 ((h : Int) + 2))).run Tryz.prog W = .ok (.slice (some ⟨W.heap.size, 0, none⟩) (h + 2) (h + 2)) (W.alloc (.cells (madeCells #[.int .i64 0, .slice none 0 0] ((h + 2) * 2)) 58)) := fun W => by have := hmk W; simpa using this
  clear hmk
  obtain ⟨W5, hW5⟩ : ∃ W5, Hid (W5 = w4.alloc (.cells (madeCells #[.int .i64 0, .slice none 0 0] ((h + 2) * 2)) 58)) := ⟨_, rfl⟩
  obtain ⟨L, hL⟩ : ∃ L, Hid (L = (w + 65) / 64) := ⟨_, rfl⟩
  obtain ⟨gr, hgr⟩ : ∃ gr, Hid (gr = w4.heap.size) := ⟨_, rfl⟩
  have hr5 : Hid (W5.heap[gr]? = some (.cells (partP (w + 2) L (fun _ => 0) (fun _ => L) (h + 2) 0).toArray 58 (0, 0))) := by
    rw [partP_zero, hW5.out, hgr.out]
    exact heap_alloc_new w4 _
  have hb5 : Hid (Below w4.heap.size w4 W5) := by rw [hW5.out]; exact below_new _
  go_wp2_with fail
  rw [← hW5.out]
  rw [← hgr.out] at hb5 hgl ⊢
  clear hmk2 q0 q1 q2 q3 q4
  go_loopw [28] (fun v wx => RwRel k tn sh w h c L gr W5 v wx) (fun v _ => h + 2 - (intOf v).toNat)
  case atStart => exact ⟨0, fun _ => 0, by omega, by go_num, hr5.out, by omega, Below.refl _ _⟩
  case round =>
    obtain ⟨j, gs, hj, rfl, hrb, hrw, hBj⟩ := hrel
    have hrb' := Lib.hid hrb
    have hrw' := Lib.hid hrw
    have hBj' := Lib.hid hBj
    have hB2j : Hid (Below W2.heap.size W2 wr) := hB24.out.trans ((hb5.out.mono (by have := hgr.out; have := hB24.out.size; omega)).trans (hBj.mono (by have := hgr.out; have := hB24.out.size; omega)))
    obtain ⟨q0, q1, q2, q3, q4⟩ := hcells.out wr hB2j.out
    have hrl : gr < wr.heap.size := (Array.getElem?_eq_some_iff.1 hrb).1
    clear hrb hrw hBj
    by_cases hjl : j < h + 2
    · obtain ⟨P, hP⟩ : ∃ P : Nat, P = j * (w + 2) := ⟨_, rfl⟩
      have hPN : P + (w + 2) ≤ N := by
        have h3 : (j + 1) * (w + 2) ≤ (h + 2) * (w + 2) := Nat.mul_le_mul_right _ (by omega)
        rw [Nat.add_mul, Nat.one_mul, ← hP, Nat.mul_comm (h + 2), ← hN.out] at h3
        exact h3
      have e1 : (j : Int) * ((w : Int) + 2) = (P : Int) := by rw [hP]; simp
      have e2 : ((j : Int) + 1) * ((w : Int) + 2) = ((P + (w + 2) : Nat) : Int) := by rw [Int.add_mul, e1]; omega
      have hwP : IntKind.i64.wrap ((j : Int) * ((w : Int) + 2)) = (P : Int) := by rw [e1]; exact IntWalk.i64_in _ (by omega)
      have hwQ : IntKind.i64.wrap (((j : Int) + 1) * ((w : Int) + 2)) = ((P + (w + 2) : Nat) : Int) := by rw [e2]; exact IntWalk.i64_in _ (by omega)
      have hsl : ∀ W, (Instr.slice 113 (.slice (some ⟨gf, 0, none⟩) N N) (some (.int .i64 (P : Int))) (some (.int .i64 ((P + (w + 2) : Nat) : Int))) none).run Tryz.prog W = .ok (.slice (some ⟨gf, P, none⟩) (w + 2) (N - P)) W := fun W => by
        have := slice99_lh W gf N P (P + (w + 2)) (by omega) hPN
        rwa [show P + (w + 2) - P = w + 2 from by omega] at this
      obtain ⟨Q, hQ⟩ : ∃ Q : Nat, Hid (Q = P + (w + 2)) := ⟨_, rfl⟩
      obtain ⟨C, hC⟩ : ∃ C : Nat, Hid (C = N - P) := ⟨_, rfl⟩
      rw [← hQ.out] at hwQ hsl
      rw [← hC.out] at hsl
      have hfj := (hfb'.out.keptW hb5.out (by omega)).keptW hBj'.out (by omega)
      have hrl2 := rowB_len (k := k) (tn := tn) (sh := sh) (c := c) (w := w) hjl
      have KO : Hid (Calls Tryz.prog 48 #[.slice (some ⟨gf, P, none⟩) (w + 2) C] wr (OfPost wr (rowB k tn sh w h c j))) := by
        refine of46 (by rw [hrl2]; omega) ?_
        have := hfj.part (o := P) (n := w + 2) (cap := C) (by rw [hLl.out]; exact hPN)
        rw [hP] at this ⊢
        exact this
      have hP' := Lib.hid hP
      clear e1 e2 hP hfj
      have hrl2' := Lib.hid hrl2
      have hpl : Hid ((pack (rowB k tn sh w h c j)).length = L) := by show _ = _; rw [(pack_good _).len, hrl2, hL.out]
      clear hrl2
      go_wp2_with fail
      refine (KO.out).mono ?_
      rintro e w6 ⟨go, rfl, hgo, hgW, hb6⟩
      rw [hpl.out, hrl2'.out]
      have hgW' := Lib.hid hgW
      have hb6' := Lib.hid hb6
      have hr6 := (hb6.block gr hrl).trans hrb'.out
      have d2 : w6.frozen? ⟨gr, j * 2, none⟩ = false := frozen_of_row w6 gr (j * 2) _ 58 hr6
      have d3 : w6.frozen? ⟨gr, j * 2 + 1, none⟩ = false := frozen_of_row w6 gr (j * 2 + 1) _ 58 hr6
      obtain ⟨a0, a1⟩ := partP_get (w + 2) L gs (fun _ => L) j hjl
      have d4 : w6.cell? ⟨gr, j * 2, none⟩ = some (.int .i64 0) := by
        rw [cell_of_row w6 gr (j * 2) _ 58 (0, 0) hr6, List.getElem?_toArray, a0]
        unfold pairAt
        rw [if_neg (by omega)]
        rfl
      have d5 : w6.cell? ⟨gr, j * 2 + 1, none⟩ = some (.slice none 0 0) := by
        rw [cell_of_row w6 gr (j * 2 + 1) _ 58 (0, 0) hr6, List.getElem?_toArray, a1]
        unfold pairAt
        rw [if_neg (by omega)]
        rfl
      have hr6' := Lib.hid hr6
      clear hr6 a0 a1 hb6 hgW KO hsl hwP hwQ q0 q1 q2 q3 q4
      go_wp2
      have hcs : (fun y => if y = j then L else (fun _ => L) y) = (fun _ : Nat => L) := by funext y; simp
      refine ⟨⟨j + 1, fun y => if y = j then go else gs y, by omega, by go_num, ?_, fun y hy => ?_, ((hBj'.out.trans (hb6'.out.mono (by omega))).setCell (Nat.le_refl _) _).setCell (Nat.le_refl _) _⟩, by simp [intOf]; omega⟩
      · have hset := partP_set (w + 2) L gs (fun _ => L) (h := h + 2) (k := j) (g := go) (c := L) hjl
        rw [hcs] at hset
        rw [heap_setCell_same _ gr (j * 2 + 1) _ 58 _ (heap_setCell_same w6 gr (j * 2) _ 58 _ hr6'.out), ← hset]
        simp
      · dsimp only
        by_cases e : y = j
        · subst e
          rw [if_pos rfl]
          exact ⟨by omega, (hgW'.out.setOther (by omega) _).setOther (by omega) _⟩
        · rw [if_neg e]
          obtain ⟨z1, z2⟩ := hrw'.out y (by omega)
          exact ⟨z1, ((z2.kept hb6'.out).setOther (by omega) _).setOther (by omega) _⟩
    · obtain rfl : h + 2 = j := by omega
      have FIN : Hid (RowsPost W w h (rowB k tn sh w h c) (.returned (.tuple #[.slice (some ⟨gr, 0, none⟩) (h + 2) (h + 2), .int .i64 0])) wr) := by
        have hsz : W.heap.size + 1 ≤ gr := by have := hgr.out; have := hB24.out.size; have := hz2.out; omega
        refine ⟨gr, gs, rfl, by omega, fun y hy => ?_, (hB4.out.trans (hb5.out.mono (by omega))).trans (hBj'.out.mono (by omega))⟩
        obtain ⟨z1, z2⟩ := hrw'.out y hy
        obtain ⟨a0, a1⟩ := partP_get (w + 2) L gs (fun _ => L) (h + 2) hy
        refine ⟨by omega, ?_, ?_, z2⟩
        · rw [cell_of_row wr gr (y * 2) _ 58 (0, 0) hrb'.out, List.getElem?_toArray, a0]
          unfold pairAt rowPair
          rw [if_pos hy]
          rfl
        · rw [cell_of_row wr gr (y * 2 + 1) _ 58 (0, 0) hrb'.out, List.getElem?_toArray, a1]
          unfold pairAt rowPair
          rw [if_pos hy, ← hL.out]
          rfl
      clear q0 q1 q2 q3 q4 hjl
      go_wp2
      go_ret2
      exact FIN.out
end
end Go.Proofs.YtcbhbojplcddkaaGreatDoor
namespace Go.Proofs.YtcbhbojplcddkaaGreatDoor
open Go.RowKit Go.RowBits
set_option linter.unusedSimpArgs false
set_option linter.unusedVariables false

/-! ### packed.may -/
abbrev lifeV (hd : Int) (born stay : Nat) : Value := .agg #[.int .u8 hd, .int .u16 (born : Int), .int .u16 (stay : Int)]
/-- All that a run asks, but for its budget. -/
def MayA (hd : Int) (born stay : Nat) (k W H tn sh : Int) (w h s : Nat) (n : Int) : Prop :=
  lifeE hd born stay = 0 ∧ TopoOk k W H tn sh ∧ 0 ≤ n ∧ n ≤ 1125899906842624 ∧ W = (w : Int) ∧ H = (h : Int) ∧ s = 2
def MayPost (W0 : World) (A : Prop) (n q : Int) (e : Ending) (w' : World) : Prop := ∃ r : Int, e = .returned (.int .i64 r) ∧ (A → n ≤ q → r = 0) ∧ (A → ¬ n ≤ q → r = 4) ∧ (¬ A → r ≠ 0) ∧ Below W0.heap.size W0 w'
theorem MayPost.no {W0 w' : World} {A : Prop} {n q r : Int} (hA : ¬ A) (hr : r ≠ 0) (hb : Below W0.heap.size W0 w') : MayPost W0 A n q (.returned (.int .i64 r)) w' := ⟨r, rfl, fun a => absurd a hA, fun a => absurd a hA, fun _ => hr, hb⟩
section
variable {B E : Nat} {W0 : World} {fb w h s : Nat} {pk : Bool} {c : Nat → Nat → Nat} {hd : Int} {born stay : Nat} {k W H tn sh n : Int}
set_option maxRecDepth 100000 in
set_option maxHeartbeats 8000000 in
theorem may19 (f : Fld B E W0 fb w h s pk c) (hb1 : born < 65536) (hs1 : stay < 65536) (hk : 0 ≤ k ∧ k < 256) (ht : 0 ≤ tn) :
    Calls Tryz.prog 20 #[lifeV hd born stay, topoV k W H tn sh, .pointer (some ⟨fb, 0, none⟩), .int .i64 n] W0 (MayPost W0 (MayA hd born stay k W H tn sh w h s n) n (67108864 / ((w : Int) * (h : Int)))) := by
  obtain ⟨⟨w1, w2⟩, ⟨h1, h2⟩, ⟨s1, s2⟩, hwh⟩ := f.side
  obtain ⟨A, hA⟩ : ∃ A : Prop, Hid (A = MayA hd born stay k W H tn sh w h s n) := ⟨_, rfl⟩
  obtain ⟨q, hq⟩ : ∃ q : Int, Hid (q = 67108864 / ((w : Int) * (h : Int))) := ⟨_, rfl⟩
  rw [← hA.out, ← hq.out]
  have F1 := Lib.hid (fun (W' : World) (hb : Below W0.heap.size W0 W') => (f.kept hb).wide)
  have F2 := Lib.hid (fun (W' : World) (hb : Below W0.heap.size W0 W') => (f.kept hb).high)
  have F3 := Lib.hid (fun (W' : World) (hb : Below W0.heap.size W0 W') => (f.kept hb).count)
  have KL := Lib.hid (fun w => lifeCheck (h := hd) hb1 hs1 w)
  have KT := Lib.hid (fun w => topo38 (W := W) (H := H) (sh := sh) hk ht w)
  obtain ⟨W2, hW2⟩ : ∃ W2, Hid (W2 = (W0.alloc (.cells #[.int .u8 hd, .int .u16 (born : Int), .int .u16 (stay : Int)] 24)).alloc (.cells #[.int .u8 k, .int .i64 W, .int .i64 H, .int .u8 tn, .int .i64 sh] 26)) := ⟨_, rfl⟩
  have hB2 : Hid (Below W0.heap.size W0 W2) := by rw [hW2.out]; exact (below_new _).alloc (by simp) _
  have E2 : Blks W2 [(W0.heap.size + 1, #[.int .u8 k, .int .i64 W, .int .i64 H, .int .u8 tn, .int .i64 sh], 26), (W0.heap.size, #[.int .u8 hd, .int .u16 (born : Int), .int .u16 (stay : Int)], 24)] := by
    rw [hW2.out]
    exact ((Blks.nil _).alloc (n := W0.heap.size) rfl #[.int .u8 hd, .int .u16 (born : Int), .int .u16 (stay : Int)] 24).alloc (n := W0.heap.size + 1) (by simp) #[.int .u8 k, .int .i64 W, .int .i64 H, .int .u8 tn, .int .i64 sh] 26
  have E2' := Lib.hid E2
  have hcl : Hid (∀ W' : World, Below W2.heap.size W2 W' → W'.cell? ⟨W0.heap.size + 1, 0, none⟩ = some (.int .u8 k) ∧ W'.cell? ⟨W0.heap.size + 1, 1, none⟩ = some (.int .i64 W) ∧ W'.cell? ⟨W0.heap.size + 1, 2, none⟩ = some (.int .i64 H) ∧ W'.cell? ⟨W0.heap.size + 1, 3, none⟩ = some (.int .u8 tn) ∧ W'.cell? ⟨W0.heap.size + 1, 4, none⟩ = some (.int .i64 sh)) := fun W' hb => by
    have h3 := (E2'.out.kept hb) (W0.heap.size + 1, #[.int .u8 k, .int .i64 W, .int .i64 H, .int .u8 tn, .int .i64 sh], 26) (by simp)
    exact ⟨by rw [cell_of_row W' _ 0 _ 26 (0, 0) h3]; rfl, by rw [cell_of_row W' _ 1 _ 26 (0, 0) h3]; rfl, by rw [cell_of_row W' _ 2 _ 26 (0, 0) h3]; rfl, by rw [cell_of_row W' _ 3 _ 26 (0, 0) h3]; rfl, by rw [cell_of_row W' _ 4 _ 26 (0, 0) h3]; rfl⟩
  have l0 : W2.cell? ⟨W0.heap.size, 0, none⟩ = some (.int .u8 hd) := E2.cell (cs := #[.int .u8 hd, .int .u16 (born : Int), .int .u16 (stay : Int)]) (T := 24) (by simp) rfl
  have l1 : W2.cell? ⟨W0.heap.size, 1, none⟩ = some (.int .u16 (born : Int)) := E2.cell (cs := #[.int .u8 hd, .int .u16 (born : Int), .int .u16 (stay : Int)]) (T := 24) (by simp) rfl
  have l2 : W2.cell? ⟨W0.heap.size, 2, none⟩ = some (.int .u16 (stay : Int)) := E2.cell (cs := #[.int .u8 hd, .int .u16 (born : Int), .int .u16 (stay : Int)]) (T := 24) (by simp) rfl
  have hwh' := Lib.hid hwh
  clear f E2 hwh
  have zw : ((w : Int) == 0) = false := by rw [beq_eq_false_iff_ne]; omega
  go_enter Tryz.func20, Tryz.ntmps20
  go_wp2_with fail
  rw [← hW2.out]
  refine (F1.out _ hB2.out).mono ?_
  rintro e wq ⟨rfl, hwq⟩
  subst wq
  go_wp2_with fail
  refine (KL.out _).mono ?_
  rintro e w3 ⟨rfl, hb3⟩
  obtain ⟨le, hle⟩ : ∃ le : Int, Hid (le = lifeE hd born stay) := ⟨_, rfl⟩
  rw [← hle.out]
  have hb3' := Lib.hid hb3
  have hB3 := Lib.hid (below_then hB2.out hb3 hB2.out.size)
  obtain ⟨p0, p1, p2, p3, p4⟩ := hcl.out w3 hb3
  clear hb3 l0 l1 l2 KL
  by_cases hl0 : le = 0
  · subst hl0
    go_wp2_with fail
    refine (KT.out _).mono ?_
    rintro e w4 ⟨r, rfl, hr, hb4⟩
    have hr' := Lib.hid hr
    have hb4' := Lib.hid (below_then hb3'.out hb4 hb3'.out.size)
    have hB4 := Lib.hid (below_then hB3.out hb4 hB3.out.size)
    obtain ⟨q0, q1, q2, q3, q4⟩ := hcl.out w4 hb4'.out
    clear hb4 hr p0 p1 p2 p3 p4 KT
    by_cases hr0 : r = 0
    · subst hr0
      by_cases hn0 : n < 0
      · go_wp2
        go_ret
        exact MayPost.no (by rw [hA.out]; exact fun a => by have := a.2.2.1; omega) (by decide) hB4.out
      by_cases hn1 : 1125899906842624 < n
      · go_wp2
        go_ret
        exact MayPost.no (by rw [hA.out]; exact fun a => by have := a.2.2.2.1; omega) (by decide) hB4.out
      by_cases hW0 : W = 0
      · have e1 : (W == 0) = true := by simp [hW0]
        go_wp2
        go_ret
        exact MayPost.no (by rw [hA.out]; exact fun a => by have := a.2.2.2.2.1; omega) (by decide) hB4.out
      have eW : (W == 0) = false := by simp [hW0]
      by_cases hH0 : H = 0
      · have e1 : (H == 0) = true := by simp [hH0]
        go_wp2
        go_ret
        exact MayPost.no (by rw [hA.out]; exact fun a => by have := a.2.2.2.2.2.1; omega) (by decide) hB4.out
      have eH : (H == 0) = false := by simp [hH0]
      have QT : Hid (∀ m, Calls Tryz.prog 40 #[.pointer (some ⟨fb, 0, none⟩)] (w4.drewN m) fun e w' => e = .returned (.int .i64 (w : Int)) ∧ w' = w4.drewN m) := fun m => F1.out _ (below_drewN hB4.out _)
      have QH : Hid (∀ m, Calls Tryz.prog 42 #[.pointer (some ⟨fb, 0, none⟩)] (w4.drewN m) fun e w' => e = .returned (.int .i64 (h : Int)) ∧ w' = w4.drewN m) := fun m => F2.out _ (below_drewN hB4.out _)
      by_cases hWw : W = (w : Int)
      · have eWw : (W != (w : Int)) = false := by simp [hWw]
        have eWe : (W == (w : Int)) = true := by simp [hWw]
        by_cases hHh : H = (h : Int)
        · subst hWw hHh
          go_wp2_with fail
          go_quiet ((first | (go_at_call 40; exact Calls.quiet_of_same (QT.out _)) | (go_at_call 42; exact Calls.quiet_of_same (QH.out _))))
          rename Nat => mm
          have KS := Lib.hid (F3.out _ (below_drewN hB4.out mm))
          obtain ⟨v0, v1, v2, v3, v4⟩ := hcl.out _ (below_drewN hb4'.out mm)
          have hB5 := Lib.hid (below_drewN hB4.out mm)
          clear q0 q1 q2 q3 q4
          go_wp2_with fail
          refine (KS.out).mono ?_
          rintro e w6 ⟨rfl, hw6⟩
          subst w6
          by_cases hs2 : s = 2
          · subst hs2
            obtain ⟨p, hp⟩ : ∃ p : Nat, Hid (p = w * h) := ⟨_, rfl⟩
            have hp1 : 1 ≤ p := by rw [hp.out]; exact Nat.mul_pos (by omega) (by omega)
            have hp2 : p ≤ 1048576 := by rw [hp.out]; exact hwh'.out
            have hpe : (w : Int) * (h : Int) = (p : Int) := by rw [hp.out]; simp
            have hwr : IntKind.i64.wrap ((w : Int) * (h : Int)) = (p : Int) := by rw [hpe]; exact IntWalk.i64_in _ (by omega)
            have hpz : ((p : Int) == 0) = false := by rw [beq_eq_false_iff_ne]; omega
            have hpz2 : ¬ (p : Int) = 0 := by omega
            have hqe : Hid (q = 67108864 / (p : Int)) := by show _ = _; rw [hq.out, hpe]
            have hAok : Hid A := by show A; rw [hA.out]; exact ⟨hle.out.symm, by have := hr'.out; simpa using this, by omega, by omega, rfl, rfl, rfl⟩
            have hq0 : 0 ≤ 67108864 / (p : Int) := Int.ediv_nonneg (by omega) (by omega)
            have hq1 : 67108864 / (p : Int) ≤ 67108864 := Int.ediv_le_self _ (by omega)
            obtain ⟨d, hd2⟩ : ∃ d : Int, d = 67108864 / (p : Int) := ⟨_, rfl⟩
            have hdq : IntKind.i64.wrap ((67108864 : Int).tdiv (p : Int)) = d := by rw [Int.tdiv_eq_ediv_of_nonneg (by omega), ← hd2]; exact IntWalk.i64_in _ (by omega)
            have hqd : Hid (q = d) := hqe.out.trans hd2.symm
            have hd3 : (67108864 : Int) / (p : Int) = d := hd2.symm
            clear hpe hq0 hq1 hd2 v0 v3 v4
            by_cases hnd : n ≤ d
            · go_wp2
              go_ret
              exact ⟨0, rfl, fun _ _ => rfl, fun _ a => absurd (by rw [hqd.out]; exact hnd) a, fun a => absurd hAok.out a, hB5.out⟩
            · go_wp2
              go_ret
              exact ⟨4, rfl, fun _ a => by rw [hqd.out] at a; omega, fun _ _ => rfl, fun a => absurd hAok.out a, hB5.out⟩
          · have e1 : ((s : Int) == 2) = false := by rw [beq_eq_false_iff_ne]; omega
            have e2 : ((s : Int) != 2) = true := by simp [bne, e1]
            go_wp2
            go_ret
            exact MayPost.no (by rw [hA.out]; exact fun a => hs2 a.2.2.2.2.2.2) (by decide) hB5.out
        · have eHh : (H != (h : Int)) = true := by simp [hHh]
          have eHe : (H == (h : Int)) = false := by simp [hHh]
          subst hWw
          go_wp2_with fail
          go_quiet ((first | (go_at_call 40; exact Calls.quiet_of_same (QT.out _)) | (go_at_call 42; exact Calls.quiet_of_same (QH.out _))))
          go_wp2
          go_ret
          exact MayPost.no (by rw [hA.out]; exact fun a => hHh a.2.2.2.2.2.1) (by decide) (below_drewN hB4.out _)
      · have eWw : (W != (w : Int)) = true := by simp [hWw]
        have eWe : (W == (w : Int)) = false := by simp [hWw]
        go_wp2_with fail
        go_quiet ((first | (go_at_call 40; exact Calls.quiet_of_same (QT.out _)) | (go_at_call 42; exact Calls.quiet_of_same (QH.out _))))
        go_wp2
        go_ret
        exact MayPost.no (by rw [hA.out]; exact fun a => hWw a.2.2.2.2.1) (by decide) (below_drewN hB4.out _)
    · have e1 : (r == 0) = false := by simp [hr0]
      have e2 : (r != 0) = true := by simp [hr0]
      go_wp2
      go_ret
      exact MayPost.no (by rw [hA.out]; exact fun a => hr0 (hr'.out.2 a.2.1)) (by decide) hB4.out
  · have e1 : (le == 0) = false := by simp [hl0]
    have e2 : (le != 0) = true := by simp [hl0]
    go_wp2
    go_ret
    exact MayPost.no (by rw [hA.out]; exact fun a => hl0 (hle.out.trans a.1)) (by decide) hB3.out
end
end Go.Proofs.YtcbhbojplcddkaaGreatDoor
