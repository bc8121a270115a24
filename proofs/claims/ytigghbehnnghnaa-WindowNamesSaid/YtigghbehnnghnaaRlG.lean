import Derived.Test.YtigghbehnnghnaaRlF
namespace Go.Proofs.Ytigghbehnnghnaa
open Go.RowKit Go.RowBits
set_option linter.unusedSimpArgs false
set_option linter.unusedVariables false

theorem idx106_0 (v0 v1 v2 : Option Addr) (n0 n1 n2 c0 c1 c2 : Nat) (w : World) : (Instr.index 106 (.agg #[.slice v0 n0 c0, .slice v1 n1 c1, .slice v2 n2 c2]) (.int .i64 0)).run Try.prog w = .ok (.slice v0 n0 c0) w := by kernel_rfl
theorem idx106_1 (v0 v1 v2 : Option Addr) (n0 n1 n2 c0 c1 c2 : Nat) (w : World) : (Instr.index 106 (.agg #[.slice v0 n0 c0, .slice v1 n1 c1, .slice v2 n2 c2]) (.int .i64 1)).run Try.prog w = .ok (.slice v1 n1 c1) w := by kernel_rfl
theorem idx106_2 (v0 v1 v2 : Option Addr) (n0 n1 n2 c0 c1 c2 : Nat) (w : World) : (Instr.index 106 (.agg #[.slice v0 n0 c0, .slice v1 n1 c1, .slice v2 n2 c2]) (.int .i64 2)).run Try.prog w = .ok (.slice v2 n2 c2) w := by kernel_rfl
theorem idx106 (af : Nat → Option Addr) (n : Nat) (cf : Nat → Nat) {y : Nat} (hy : y < 3) (w : World) :
    (Instr.index 106 (.agg #[.slice (af 0) n (cf 0), .slice (af 1) n (cf 1), .slice (af 2) n (cf 2)]) (.int .i64 (y : Int))).run Try.prog w = .ok (.slice (af y) n (cf y)) w := by
  match y, hy with
  | 0, _ => exact idx106_0 ..
  | 1, _ => exact idx106_1 ..
  | 2, _ => exact idx106_2 ..
set_option maxRecDepth 20000 in
set_option maxHeartbeats 4000000 in
theorem line27 {h : Int} {born stay : Nat} {k : Int} {n : Nat} {w : World} {R : Nat → List Nat} (af : Nat → Option Addr) (cf : Nat → Nat) (S : Strip h born stay k (n : Int)) (hR : ∀ i, i < 3 → HasY w (.slice (af i) n (cf i)) (R i)) (hn : ∀ i, i < 3 → (R i).length = n) (h2 : ∀ i j, i < 3 → (R i).getD j 0 < 2) :
    Calls Try.prog 27 #[lifeRule h born stay, topoV k (n : Int) 0, .slice (af 0) n (cf 0), .slice (af 1) n (cf 1), .slice (af 2) n (cf 2)] w fun e w' =>
      ∃ g, e = .returned (.tuple #[.slice (some ⟨g, 0, none⟩) n n, .int .i64 0]) ∧ w.heap.size ≤ g ∧ YBlk w' g (winL h born stay k n R) ∧ Below w.heap.size w w' := by
  have K1 := Lib.hid (fun W' => winCheck28 S W')
  have K2 := Lib.hid (fun i (hi : i < 3) W' (hv : HasY W' (.slice (af i) n (cf i)) (R i)) => knows53 (w := W') S.hb1 S.hs1 S.hE (by rw [hn i hi]; have := S.hW; omega) hv (fun j _ => h2 i j hi))
  have K3 := Lib.hid (fun W' (hv : ∀ i, i < 3 → HasY W' (.slice (af i) n (cf i)) (R i)) => line54 (w := W') af cf S hv hn h2)
  have hR' := Lib.hid hR
  have hn2 : n ≤ 65536 := by have := S.hW; omega
  have hix := Lib.hid (fun y (hy : y < 3) W => idx106 af n cf hy W)
  generalize winL h born stay k n R = wl at *
  clear hR hn h2 S
  go_enter Try.func27, Try.ntmps27
  go_wp2_with fail
  refine (K1.out _).mono ?_
  rintro e w1 ⟨rfl, hb⟩
  have E1 := (((Blks.nil w).alloc rfl #[.int .u8 1, .int .u8 h, .int .u16 (born : Int), .int .u16 (stay : Int), .int .i64 2, .string ⟨#[]⟩, .int .i64 0, .int .u8 0, .int .u8 0, .slice none 0 0, .slice none 0 0] 46).alloc (n := w.heap.size + 1) (by simp) #[.int .u8 k, .int .i64 (n : Int), .int .i64 0, .int .u8 0, .int .i64 0] 49).kept hb
  have hz1 : w.heap.size + 1 < w1.heap.size := by have := hb.size; simp at this; omega
  have hB1 := Lib.hid (below_then (B := w.heap.size) ((below_new _).alloc (by simp) _) hb (by simp; omega))
  clear hb
  go_upto_region 5 with fail
  obtain ⟨W2, hW2⟩ : ∃ W2, W2 = w1.alloc (.cells #[.slice (af 0) n (cf 0), .slice (af 1) n (cf 1), .slice (af 2) n (cf 2)] 106) := ⟨_, rfl⟩
  have E20 := E1.alloc rfl #[.slice (af 0) n (cf 0), .slice (af 1) n (cf 1), .slice (af 2) n (cf 2)] 106
  rw [← hW2] at E20 ⊢
  have E2 := Lib.hid E20
  have hB2 : Hid (Below w.heap.size w W2) := by rw [hW2]; exact hB1.out.alloc hB1.out.size _
  have hz2 : W2.heap.size = w1.heap.size + 1 := by rw [hW2]; simp
  clear E1 E20 hW2
  have m0 : W2.cell? ⟨w1.heap.size, 0, none⟩ = some (.slice (af 0) n (cf 0)) := E2.out.cell (cs := #[.slice (af 0) n (cf 0), .slice (af 1) n (cf 1), .slice (af 2) n (cf 2)]) (T := 106) (by simp) rfl
  have m1 : W2.cell? ⟨w1.heap.size, 1, none⟩ = some (.slice (af 1) n (cf 1)) := E2.out.cell (cs := #[.slice (af 0) n (cf 0), .slice (af 1) n (cf 1), .slice (af 2) n (cf 2)]) (T := 106) (by simp) rfl
  have m2 : W2.cell? ⟨w1.heap.size, 2, none⟩ = some (.slice (af 2) n (cf 2)) := E2.out.cell (cs := #[.slice (af 0) n (cf 0), .slice (af 1) n (cf 1), .slice (af 2) n (cf 2)]) (T := 106) (by simp) rfl
  have mw : W2.cell? ⟨w.heap.size + 1, 1, none⟩ = some (.int .i64 (n : Int)) := E2.out.cell (cs := #[.int .u8 k, .int .i64 (n : Int), .int .i64 0, .int .u8 0, .int .i64 0]) (T := 49) (by simp) rfl
  go_wp2
  go_loop [29] (fun i => ∃ y : Nat, y ≤ 3 ∧ i = .int .i64 (y : Int)) (fun i => 3 - (intOf i).toNat)
  case atStart => exact ⟨0, by omega, by go_num⟩
  case round =>
    obtain ⟨y, hy, rfl⟩ := hrel
    by_cases hlt : y < 3
    · have hi := hix.out y hlt W2
      go_wp2
      go_round
      case rel => exact ⟨y + 1, by omega, by go_num⟩
      case measure => simp [intOf]; omega
    · obtain rfl : y = 3 := by omega
      clear hlt
      go_wp2
      go_loopw [39] (fun i wx => LRel W2 3 i wx) (fun i _ => 3 - (intOf i).toNat)
      case atStart => exact ⟨0, by omega, by go_num, Below.refl _ _⟩
      case round =>
        obtain ⟨y, hy, rfl, hB⟩ := hrel
        have hB' := Lib.hid hB
        have E3 := Lib.hid (E2.out.kept hB)
        clear hB
        have r0 : wr.cell? ⟨w.heap.size, 0, none⟩ = some (.int .u8 1) := E3.out.cell (cs := #[.int .u8 1, .int .u8 h, .int .u16 (born : Int), .int .u16 (stay : Int), .int .i64 2, .string ⟨#[]⟩, .int .i64 0, .int .u8 0, .int .u8 0, .slice none 0 0, .slice none 0 0]) (T := 46) (by simp) rfl
        have r1 : wr.cell? ⟨w.heap.size, 1, none⟩ = some (.int .u8 h) := E3.out.cell (cs := #[.int .u8 1, .int .u8 h, .int .u16 (born : Int), .int .u16 (stay : Int), .int .i64 2, .string ⟨#[]⟩, .int .i64 0, .int .u8 0, .int .u8 0, .slice none 0 0, .slice none 0 0]) (T := 46) (by simp) rfl
        have r2 : wr.cell? ⟨w.heap.size, 2, none⟩ = some (.int .u16 (born : Int)) := E3.out.cell (cs := #[.int .u8 1, .int .u8 h, .int .u16 (born : Int), .int .u16 (stay : Int), .int .i64 2, .string ⟨#[]⟩, .int .i64 0, .int .u8 0, .int .u8 0, .slice none 0 0, .slice none 0 0]) (T := 46) (by simp) rfl
        have r3 : wr.cell? ⟨w.heap.size, 3, none⟩ = some (.int .u16 (stay : Int)) := E3.out.cell (cs := #[.int .u8 1, .int .u8 h, .int .u16 (born : Int), .int .u16 (stay : Int), .int .i64 2, .string ⟨#[]⟩, .int .i64 0, .int .u8 0, .int .u8 0, .slice none 0 0, .slice none 0 0]) (T := 46) (by simp) rfl
        have r4 : wr.cell? ⟨w.heap.size, 4, none⟩ = some (.int .i64 2) := E3.out.cell (cs := #[.int .u8 1, .int .u8 h, .int .u16 (born : Int), .int .u16 (stay : Int), .int .i64 2, .string ⟨#[]⟩, .int .i64 0, .int .u8 0, .int .u8 0, .slice none 0 0, .slice none 0 0]) (T := 46) (by simp) rfl
        have r5 : wr.cell? ⟨w.heap.size, 5, none⟩ = some (.string ⟨#[]⟩) := E3.out.cell (cs := #[.int .u8 1, .int .u8 h, .int .u16 (born : Int), .int .u16 (stay : Int), .int .i64 2, .string ⟨#[]⟩, .int .i64 0, .int .u8 0, .int .u8 0, .slice none 0 0, .slice none 0 0]) (T := 46) (by simp) rfl
        have r6 : wr.cell? ⟨w.heap.size, 6, none⟩ = some (.int .i64 0) := E3.out.cell (cs := #[.int .u8 1, .int .u8 h, .int .u16 (born : Int), .int .u16 (stay : Int), .int .i64 2, .string ⟨#[]⟩, .int .i64 0, .int .u8 0, .int .u8 0, .slice none 0 0, .slice none 0 0]) (T := 46) (by simp) rfl
        have r7 : wr.cell? ⟨w.heap.size, 7, none⟩ = some (.int .u8 0) := E3.out.cell (cs := #[.int .u8 1, .int .u8 h, .int .u16 (born : Int), .int .u16 (stay : Int), .int .i64 2, .string ⟨#[]⟩, .int .i64 0, .int .u8 0, .int .u8 0, .slice none 0 0, .slice none 0 0]) (T := 46) (by simp) rfl
        have r8 : wr.cell? ⟨w.heap.size, 8, none⟩ = some (.int .u8 0) := E3.out.cell (cs := #[.int .u8 1, .int .u8 h, .int .u16 (born : Int), .int .u16 (stay : Int), .int .i64 2, .string ⟨#[]⟩, .int .i64 0, .int .u8 0, .int .u8 0, .slice none 0 0, .slice none 0 0]) (T := 46) (by simp) rfl
        have r9 : wr.cell? ⟨w.heap.size, 9, none⟩ = some (.slice none 0 0) := E3.out.cell (cs := #[.int .u8 1, .int .u8 h, .int .u16 (born : Int), .int .u16 (stay : Int), .int .i64 2, .string ⟨#[]⟩, .int .i64 0, .int .u8 0, .int .u8 0, .slice none 0 0, .slice none 0 0]) (T := 46) (by simp) rfl
        have r10 : wr.cell? ⟨w.heap.size, 10, none⟩ = some (.slice none 0 0) := E3.out.cell (cs := #[.int .u8 1, .int .u8 h, .int .u16 (born : Int), .int .u16 (stay : Int), .int .i64 2, .string ⟨#[]⟩, .int .i64 0, .int .u8 0, .int .u8 0, .slice none 0 0, .slice none 0 0]) (T := 46) (by simp) rfl
        by_cases hlt : y < 3
        · have hi := hix.out y hlt wr
          have hv := Lib.hid ((hR'.out y hlt).keptB (below_then hB2.out hB'.out hB2.out.size) (Nat.le_refl _))
          go_wp2_with fail
          refine (K2.out y hlt _ hv.out).mono ?_
          rintro e w5 ⟨rfl, hb⟩
          have hB5 := Lib.hid (below_then hB'.out hb hB'.out.size)
          clear hb
          go_wp2
          exact ⟨⟨y + 1, by omega, by go_num, hB5.out⟩, by simp [intOf]; omega⟩
        · obtain rfl : y = 3 := by omega
          clear hlt
          have t0 : wr.cell? ⟨w.heap.size + 1, 0, none⟩ = some (.int .u8 k) := E3.out.cell (cs := #[.int .u8 k, .int .i64 (n : Int), .int .i64 0, .int .u8 0, .int .i64 0]) (T := 49) (by simp) rfl
          have t1 : wr.cell? ⟨w.heap.size + 1, 1, none⟩ = some (.int .i64 (n : Int)) := E3.out.cell (cs := #[.int .u8 k, .int .i64 (n : Int), .int .i64 0, .int .u8 0, .int .i64 0]) (T := 49) (by simp) rfl
          have t2 : wr.cell? ⟨w.heap.size + 1, 2, none⟩ = some (.int .i64 0) := E3.out.cell (cs := #[.int .u8 k, .int .i64 (n : Int), .int .i64 0, .int .u8 0, .int .i64 0]) (T := 49) (by simp) rfl
          have t3 : wr.cell? ⟨w.heap.size + 1, 3, none⟩ = some (.int .u8 0) := E3.out.cell (cs := #[.int .u8 k, .int .i64 (n : Int), .int .i64 0, .int .u8 0, .int .i64 0]) (T := 49) (by simp) rfl
          have t4 : wr.cell? ⟨w.heap.size + 1, 4, none⟩ = some (.int .i64 0) := E3.out.cell (cs := #[.int .u8 k, .int .i64 (n : Int), .int .i64 0, .int .u8 0, .int .i64 0]) (T := 49) (by simp) rfl
          have s0 : wr.cell? ⟨w1.heap.size, 0, none⟩ = some (.slice (af 0) n (cf 0)) := E3.out.cell (cs := #[.slice (af 0) n (cf 0), .slice (af 1) n (cf 1), .slice (af 2) n (cf 2)]) (T := 106) (by simp) rfl
          have s1 : wr.cell? ⟨w1.heap.size, 1, none⟩ = some (.slice (af 1) n (cf 1)) := E3.out.cell (cs := #[.slice (af 0) n (cf 0), .slice (af 1) n (cf 1), .slice (af 2) n (cf 2)]) (T := 106) (by simp) rfl
          have s2 : wr.cell? ⟨w1.heap.size, 2, none⟩ = some (.slice (af 2) n (cf 2)) := E3.out.cell (cs := #[.slice (af 0) n (cf 0), .slice (af 1) n (cf 1), .slice (af 2) n (cf 2)]) (T := 106) (by simp) rfl
          have hv := Lib.hid (fun i (hi : i < 3) => (hR'.out i hi).keptB (below_then hB2.out hB'.out hB2.out.size) (Nat.le_refl _))
          go_wp2_with fail
          refine (K3.out _ hv.out).mono ?_
          rintro e w5 ⟨g, rfl, hg, hY, hb⟩
          have hB5 := Lib.hid (below_then (below_then hB2.out hB'.out hB2.out.size) hb (by have := hB2.out.size; have := hB'.out.size; omega))
          have hg' : w.heap.size ≤ g := by have := hB2.out.size; have := hB'.out.size; omega
          have hY' := Lib.hid hY
          clear hb hY
          go_wp2
          go_ret2
          exact ⟨g, rfl, hg', hY'.out, hB5.out⟩
end Go.Proofs.Ytigghbehnnghnaa
