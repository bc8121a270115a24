import Derived.Test.YtcbhbojplcddkaaGreatDoorZGdG0
import Derived.Deep.RegionWith
import Derived.Deep.CutRange
import Derived.Laws.EntriesVeiled
namespace Go.Proofs.YtcbhbojplcddkaaGreatDoor
open Go.RowKit Go.RowBits
set_option linter.unusedSimpArgs false
set_option linter.unusedVariables false

set_option maxRecDepth 100000 in
set_option maxHeartbeats 8000000 in
theorem ring60_4 {W H tn sh x y : Int} {p : Int × Int} {ok : Bool} (ht : 0 ≤ tn) (hok : TopoOk 4 W H tn sh) (W1 : 1 ≤ W) (H1 : 1 ≤ H) (x1 : -1 ≤ x) (x2 : x ≤ W) (y1 : -1 ≤ y) (y2 : y ≤ H)
    (hp : -65537 ≤ p.1 ∧ p.1 ≤ 131073 ∧ -65537 ≤ p.2 ∧ p.2 ≤ 131073) (hway : ∀ w, Calls Tryz.prog 88 #[gridV 4 W H tn sh (-(W / 2)) (-(H / 2)), .int .i64 x, .int .i64 y] w (WayPost w p ok)) (w : World) :
    Calls Tryz.prog 68 #[topoV 4 W H tn sh, ptV (x - W / 2) (y - H / 2)] w (RingPost w W H p ok) := by
  have W2 := hok.2.1.2.1
  have H2 := hok.2.1.2.2.2
  have K1 := Lib.hid (fun (w : World) (g : Nat) c0 c1 => of65 (k := 4) (x := x - W / 2) (y := y - H / 2) (g := g) (by omega) ht hok (by omega) (by omega) (by omega) (by omega) w c0 c1)
  have K2 := Lib.hid (fun w => home66 (k := 4) (tn := tn) (sh := sh) W1 W2 H1 H2 x1 x2 y1 y2 w)
  have K3 := Lib.hid (fun w => way67_4 w)
  have K4 := Lib.hid hway
  obtain ⟨p1, p2, p3, p4⟩ := hp
  have K5 := Lib.hid (fun w => place68 (k := 4) (tn := tn) (sh := sh) W1 W2 H1 H2 p1 p2 p3 p4 w)
  clear hway hok
  obtain ⟨a, ha⟩ : ∃ a, Hid (a = x - W / 2) := ⟨_, rfl⟩
  obtain ⟨b, hb⟩ : ∃ b, Hid (b = y - H / 2) := ⟨_, rfl⟩
  rw [← ha.out, ← hb.out] at K1 K2 ⊢
  go_enter Tryz.func68, Tryz.ntmps68
  go_wp2_with fail
  refine (K1.out _ _ ?_ ?_).mono ?_
  · go_simp
  · go_simp
  rintro e w1 ⟨rfl, hb1⟩
  obtain ⟨c, hc⟩ : ∃ c, Hid (c = -(W / 2)) := ⟨_, rfl⟩
  obtain ⟨d, hd⟩ : ∃ d, Hid (d = -(H / 2)) := ⟨_, rfl⟩
  rw [← hc.out, ← hd.out] at K2 K4 K5 ⊢
  have hz1 : w.heap.size + 3 < w1.heap.size := by have := hb1.size; simp at this; omega
  have hB1 : Below w.heap.size w w1 := by
    have h1 : Below w.heap.size w ((((w.alloc (.cells #[.int .u8 4, .int .i64 W, .int .i64 H, .int .u8 tn, .int .i64 sh] 26)).alloc (.cells #[.int .i64 a, .int .i64 b] 111)).alloc (.cells #[.int .i64 0, .int .i64 0] 111)).alloc (.cells #[.int .i64 a, .int .i64 b] 111)) := (((below_new _).alloc (by simp) _).alloc (by simp; omega) _).alloc (by simp; omega) _
    exact below_then h1 hb1 h1.size
  have E1 : Blks w1 [(w.heap.size + 1 + 1, #[.int .i64 0, .int .i64 0], 111), (w.heap.size + 1, #[.int .i64 a, .int .i64 b], 111)] :=
    (((Blks.nil (w.alloc (.cells #[.int .u8 4, .int .i64 W, .int .i64 H, .int .u8 tn, .int .i64 sh] 26))).alloc (n := w.heap.size + 1) (by simp) #[.int .i64 a, .int .i64 b] 111).alloc (n := w.heap.size + 1 + 1) (by simp) #[.int .i64 0, .int .i64 0] 111).kept (below_then (below_new (.cells #[.int .i64 a, .int .i64 b] 111)) hb1 (by simp))
  obtain ⟨W5, hW5⟩ : ∃ W5, Hid (W5 = w1.alloc (.cells #[.int .u8 4, .int .i64 W, .int .i64 H, .int .u8 tn, .int .i64 sh, .int .i64 c, .int .i64 d] 171)) := ⟨_, rfl⟩
  have hB5 : Hid (Below w.heap.size w W5) := by rw [hW5.out]; exact hB1.alloc hB1.size _
  have E5 : Blks W5 [(w1.heap.size, #[.int .u8 4, .int .i64 W, .int .i64 H, .int .u8 tn, .int .i64 sh, .int .i64 c, .int .i64 d], 171), (w.heap.size + 1 + 1, #[.int .i64 0, .int .i64 0], 111), (w.heap.size + 1, #[.int .i64 a, .int .i64 b], 111)] := by
    rw [hW5.out]
    exact E1.alloc rfl #[.int .u8 4, .int .i64 W, .int .i64 H, .int .u8 tn, .int .i64 sh, .int .i64 c, .int .i64 d] 171
  have E5' := Lib.hid E5
  obtain ⟨b5, hb5⟩ : ∃ b5, Hid (b5 = w1.heap.size) := ⟨_, rfl⟩
  go_upto_region 2 with fail
  rw [← hW5.out]
  rw [← hb5.out] at E5' ⊢
  have g0 : W5.cell? ⟨b5, 0, none⟩ = some (.int .u8 4) := E5'.out.cell (cs := #[.int .u8 4, .int .i64 W, .int .i64 H, .int .u8 tn, .int .i64 sh, .int .i64 c, .int .i64 d]) (T := 171) (by simp) rfl
  have g1 : W5.cell? ⟨b5, 1, none⟩ = some (.int .i64 W) := E5'.out.cell (cs := #[.int .u8 4, .int .i64 W, .int .i64 H, .int .u8 tn, .int .i64 sh, .int .i64 c, .int .i64 d]) (T := 171) (by simp) rfl
  have g2 : W5.cell? ⟨b5, 2, none⟩ = some (.int .i64 H) := E5'.out.cell (cs := #[.int .u8 4, .int .i64 W, .int .i64 H, .int .u8 tn, .int .i64 sh, .int .i64 c, .int .i64 d]) (T := 171) (by simp) rfl
  have g3 : W5.cell? ⟨b5, 3, none⟩ = some (.int .u8 tn) := E5'.out.cell (cs := #[.int .u8 4, .int .i64 W, .int .i64 H, .int .u8 tn, .int .i64 sh, .int .i64 c, .int .i64 d]) (T := 171) (by simp) rfl
  have g4 : W5.cell? ⟨b5, 4, none⟩ = some (.int .i64 sh) := E5'.out.cell (cs := #[.int .u8 4, .int .i64 W, .int .i64 H, .int .u8 tn, .int .i64 sh, .int .i64 c, .int .i64 d]) (T := 171) (by simp) rfl
  have g5 : W5.cell? ⟨b5, 5, none⟩ = some (.int .i64 c) := E5'.out.cell (cs := #[.int .u8 4, .int .i64 W, .int .i64 H, .int .u8 tn, .int .i64 sh, .int .i64 c, .int .i64 d]) (T := 171) (by simp) rfl
  have g6 : W5.cell? ⟨b5, 6, none⟩ = some (.int .i64 d) := E5'.out.cell (cs := #[.int .u8 4, .int .i64 W, .int .i64 H, .int .u8 tn, .int .i64 sh, .int .i64 c, .int .i64 d]) (T := 171) (by simp) rfl
  have t0 : W5.cell? ⟨w.heap.size + 1, 0, none⟩ = some (.int .i64 a) := E5'.out.cell (cs := #[.int .i64 a, .int .i64 b]) (T := 111) (by simp) rfl
  have t1 : W5.cell? ⟨w.heap.size + 1, 1, none⟩ = some (.int .i64 b) := E5'.out.cell (cs := #[.int .i64 a, .int .i64 b]) (T := 111) (by simp) rfl
  have hz5 : w.heap.size + 3 < W5.heap.size := by rw [hW5.out]; simp; omega
  clear hb1 hB1 E1 E5 hz1 K1 hW5
  go_wp2_with fail
  refine (K2.out _).mono ?_
  rintro e w6 ⟨rfl, hb6⟩
  have E6' := Lib.hid (E5'.out.kept hb6)
  have hB6 := Lib.hid (below_then hB5.out hb6 hB5.out.size)
  have hz6 : w.heap.size + 3 < w6.heap.size := by have := hb6.size; omega
  clear hb6 K2 t0 t1 hz5 g0 g1 g2 g3 g4 g5 g6
  have g0 : w6.cell? ⟨b5, 0, none⟩ = some (.int .u8 4) := E6'.out.cell (cs := #[.int .u8 4, .int .i64 W, .int .i64 H, .int .u8 tn, .int .i64 sh, .int .i64 c, .int .i64 d]) (T := 171) (by simp) rfl
  have g1 : w6.cell? ⟨b5, 1, none⟩ = some (.int .i64 W) := E6'.out.cell (cs := #[.int .u8 4, .int .i64 W, .int .i64 H, .int .u8 tn, .int .i64 sh, .int .i64 c, .int .i64 d]) (T := 171) (by simp) rfl
  have g2 : w6.cell? ⟨b5, 2, none⟩ = some (.int .i64 H) := E6'.out.cell (cs := #[.int .u8 4, .int .i64 W, .int .i64 H, .int .u8 tn, .int .i64 sh, .int .i64 c, .int .i64 d]) (T := 171) (by simp) rfl
  have g3 : w6.cell? ⟨b5, 3, none⟩ = some (.int .u8 tn) := E6'.out.cell (cs := #[.int .u8 4, .int .i64 W, .int .i64 H, .int .u8 tn, .int .i64 sh, .int .i64 c, .int .i64 d]) (T := 171) (by simp) rfl
  have g4 : w6.cell? ⟨b5, 4, none⟩ = some (.int .i64 sh) := E6'.out.cell (cs := #[.int .u8 4, .int .i64 W, .int .i64 H, .int .u8 tn, .int .i64 sh, .int .i64 c, .int .i64 d]) (T := 171) (by simp) rfl
  have g5 : w6.cell? ⟨b5, 5, none⟩ = some (.int .i64 c) := E6'.out.cell (cs := #[.int .u8 4, .int .i64 W, .int .i64 H, .int .u8 tn, .int .i64 sh, .int .i64 c, .int .i64 d]) (T := 171) (by simp) rfl
  have g6 : w6.cell? ⟨b5, 6, none⟩ = some (.int .i64 d) := E6'.out.cell (cs := #[.int .u8 4, .int .i64 W, .int .i64 H, .int .u8 tn, .int .i64 sh, .int .i64 c, .int .i64 d]) (T := 171) (by simp) rfl
  go_upto_region 7 with fail
  have hd6 : Hid (Below w6.heap.size w6 w6.drew) := (Below.refl _ _).drew
  go_region_with ((first
    | (go_at_call 79; refine (K3.out _).mono ?_; rintro e w7 ⟨rfl, hb7⟩; have hx7 : Below w6.heap.size w6 w7 := hd6.out.trans hb7; have k0 := cell_kept hx7 g0; have k1 := cell_kept hx7 g1; have k2 := cell_kept hx7 g2; have k3 := cell_kept hx7 g3; have k4 := cell_kept hx7 g4; have k5 := cell_kept hx7 g5; have k6 := cell_kept hx7 g6; have hx7' := Lib.hid hx7; clear hb7 hx7)
    | (go_at_call 88; refine (K4.out _).mono ?_; rintro e w8 ⟨rfl, hb8⟩; have hx8 := Lib.hid (below_then hx7'.out hb8 hx7'.out.size); clear hb8)))
  all_goals
    have hx8' := hx8
    have m0 := cell_kept hx8'.out g0
    have m1 := cell_kept hx8'.out g1
    have m2 := cell_kept hx8'.out g2
    have m3 := cell_kept hx8'.out g3
    have m4 := cell_kept hx8'.out g4
    have m5 := cell_kept hx8'.out g5
    have m6 := cell_kept hx8'.out g6
    have E8 := E6'.out.kept hx8'.out
    have hB8 := Lib.hid (below_then hB6.out hx8'.out hB6.out.size)
    have hr8 : Hid (w8.heap[w.heap.size + 1 + 1]? = some (.cells #[.int .i64 0, .int .i64 0] 111 (0, 0))) := E8 (w.heap.size + 1 + 1, #[.int .i64 0, .int .i64 0], 111) (by simp)
    have r0 : w8.cell? ⟨w.heap.size + 1 + 1, 0, none⟩ = some (.int .i64 0) := by rw [cell_of_row w8 _ 0 _ 111 (0, 0) hr8.out]; rfl
    have r1 : w8.cell? ⟨w.heap.size + 1 + 1, 1, none⟩ = some (.int .i64 0) := by rw [cell_of_row w8 _ 1 _ 111 (0, 0) hr8.out]; rfl
    have rf0 : w8.frozen? ⟨w.heap.size + 1 + 1, 0, none⟩ = false := frozen_of_row w8 _ 0 _ 111 hr8.out
    have rf1 : w8.frozen? ⟨w.heap.size + 1 + 1, 1, none⟩ = false := frozen_of_row w8 _ 1 _ 111 hr8.out
    clear E8 hx8 g0 g1 g2 g3 g4 g5 g6 k0 k1 k2 k3 k4 k5 k6 x1 x2 y1 y2 W1 H1 W2 H2
    cases ok
    · go_wp2
      try simp only [Exit.inBlock, Exit.then]
      refine bodyPost_ret (v := .tuple #[ptV 0 0, .bool false, .int .i64 0]) ?_ rfl ⟨rfl, (hB8.out.setCell (by simp; omega) _).setCell (by simp; omega) _⟩
      rw [results_cell3 rfl]
      go_simp
    · go_wp2_with fail
      refine (K5.out _).mono ?_
      rintro e w9 ⟨rfl, hb9⟩
      have hB9 := Lib.hid (below_then hB8.out hb9 hB8.out.size)
      have hr9 : Hid (w9.heap[w.heap.size + 1 + 1]? = some (.cells #[.int .i64 0, .int .i64 0] 111 (0, 0))) := (hb9.block _ (Array.getElem?_eq_some_iff.1 hr8.out).1).trans hr8.out
      have s0 : w9.cell? ⟨w.heap.size + 1 + 1, 0, none⟩ = some (.int .i64 0) := by rw [cell_of_row w9 _ 0 _ 111 (0, 0) hr9.out]; rfl
      have s1 : w9.cell? ⟨w.heap.size + 1 + 1, 1, none⟩ = some (.int .i64 0) := by rw [cell_of_row w9 _ 1 _ 111 (0, 0) hr9.out]; rfl
      have sf0 : w9.frozen? ⟨w.heap.size + 1 + 1, 0, none⟩ = false := frozen_of_row w9 _ 0 _ 111 hr9.out
      have sf1 : w9.frozen? ⟨w.heap.size + 1 + 1, 1, none⟩ = false := frozen_of_row w9 _ 1 _ 111 hr9.out
      clear hb9 r0 r1 rf0 rf1 m0 m1 m2 m3 m4 m5 m6
      go_wp2
      try simp only [Exit.inBlock, Exit.then]
      refine bodyPost_ret (v := .tuple #[ptV (p.1 - W / 2) (p.2 - H / 2), .bool true, .int .i64 0]) ?_ rfl ⟨rfl, (hB9.out.setCell (by simp; omega) _).setCell (by simp; omega) _⟩
      rw [results_cell3 rfl]
      go_simp
end Go.Proofs.YtcbhbojplcddkaaGreatDoor
