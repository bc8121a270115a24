import Derived.Test.YtigghbehnnghnaaRlN
namespace Go.Proofs.Ytigghbehnnghnaa
attribute [local go_sem] RegInv.putAll
open Go.RowKit Go.RowBits Go.MapRaw Go.Maps
set_option linter.unusedSimpArgs false
set_option linter.unusedVariables false

set_option maxRecDepth 20000 in
set_option maxHeartbeats 4000000 in
theorem new18 {h : Int} {born stay : Nat} {k : Int} {n most : Nat} {W : World} (S : Strip h born stay k (n : Int)) (hm : 1 ≤ most ∧ most ≤ 65536) : Calls Try.prog 18 #[lifeRule h born stay, topoV k (n : Int) 0, .int .i64 (most : Int)] W fun e w' =>
    ∃ bk bn bw, e = .returned (.tuple #[.pointer (some ⟨bk, 0, none⟩), .int .i64 0]) ∧ Book ⟨h, born, stay, k, n, most⟩ W.heap.size w' bk bn bw [List.replicate n 0] [] ∧ Below W.heap.size W w' := by
  have K1 := Lib.hid (fun W' => winCheck28 S W')
  have K2 := Lib.hid (fun W' => states48 (h := h) S.hb1 S.hs1 S.hE W')
  have hn1 : 1 ≤ n ∧ n ≤ 65536 := by have := S.hW; omega
  have hmk := fun m => run_make_row' (P := Try.prog) 53 5 (.int .u8 0) 1 Try.underlying53 info5' rfl .i64 .i64 m
  have hmkn : ∀ W, (Instr.makeSlice 53 (.int .i64 (n : Int)) (.int .i64 (n : Int))).run Try.prog W = .ok (.slice (some ⟨W.heap.size, 0, none⟩) n n) (W.alloc (.cells (madeCells #[.int .u8 0] n) 5)) := fun W => hmk n (by omega) (by omega) W
  obtain ⟨m1, m2⟩ := hm
  have hmm := @run_makeMap Try.prog
  clear S hmk
  go_enter Try.func18, Try.ntmps18
  go_wp2_with fail
  refine (K1.out _).mono ?_
  rintro e w1 ⟨rfl, hb⟩
  have E1 := Lib.hid ((((Blks.nil W).alloc rfl #[.int .u8 1, .int .u8 h, .int .u16 (born : Int), .int .u16 (stay : Int), .int .i64 2, .string ⟨#[]⟩, .int .i64 0, .int .u8 0, .int .u8 0, .slice none 0 0, .slice none 0 0] 46).alloc (n := W.heap.size + 1) (by simp) #[.int .u8 k, .int .i64 (n : Int), .int .i64 0, .int .u8 0, .int .i64 0] 49).kept hb)
  have hB1 := Lib.hid (below_then (B := W.heap.size) ((below_new _).alloc (by simp) _) hb (by simp; omega))
  clear hb
  have r0 : w1.cell? ⟨W.heap.size, 0, none⟩ = some (.int .u8 1) := E1.out.cell (cs := #[.int .u8 1, .int .u8 h, .int .u16 (born : Int), .int .u16 (stay : Int), .int .i64 2, .string ⟨#[]⟩, .int .i64 0, .int .u8 0, .int .u8 0, .slice none 0 0, .slice none 0 0]) (T := 46) (by simp) rfl
  have r1 : w1.cell? ⟨W.heap.size, 1, none⟩ = some (.int .u8 h) := E1.out.cell (cs := #[.int .u8 1, .int .u8 h, .int .u16 (born : Int), .int .u16 (stay : Int), .int .i64 2, .string ⟨#[]⟩, .int .i64 0, .int .u8 0, .int .u8 0, .slice none 0 0, .slice none 0 0]) (T := 46) (by simp) rfl
  have r2 : w1.cell? ⟨W.heap.size, 2, none⟩ = some (.int .u16 (born : Int)) := E1.out.cell (cs := #[.int .u8 1, .int .u8 h, .int .u16 (born : Int), .int .u16 (stay : Int), .int .i64 2, .string ⟨#[]⟩, .int .i64 0, .int .u8 0, .int .u8 0, .slice none 0 0, .slice none 0 0]) (T := 46) (by simp) rfl
  have r3 : w1.cell? ⟨W.heap.size, 3, none⟩ = some (.int .u16 (stay : Int)) := E1.out.cell (cs := #[.int .u8 1, .int .u8 h, .int .u16 (born : Int), .int .u16 (stay : Int), .int .i64 2, .string ⟨#[]⟩, .int .i64 0, .int .u8 0, .int .u8 0, .slice none 0 0, .slice none 0 0]) (T := 46) (by simp) rfl
  have r4 : w1.cell? ⟨W.heap.size, 4, none⟩ = some (.int .i64 2) := E1.out.cell (cs := #[.int .u8 1, .int .u8 h, .int .u16 (born : Int), .int .u16 (stay : Int), .int .i64 2, .string ⟨#[]⟩, .int .i64 0, .int .u8 0, .int .u8 0, .slice none 0 0, .slice none 0 0]) (T := 46) (by simp) rfl
  have r5 : w1.cell? ⟨W.heap.size, 5, none⟩ = some (.string ⟨#[]⟩) := E1.out.cell (cs := #[.int .u8 1, .int .u8 h, .int .u16 (born : Int), .int .u16 (stay : Int), .int .i64 2, .string ⟨#[]⟩, .int .i64 0, .int .u8 0, .int .u8 0, .slice none 0 0, .slice none 0 0]) (T := 46) (by simp) rfl
  have r6 : w1.cell? ⟨W.heap.size, 6, none⟩ = some (.int .i64 0) := E1.out.cell (cs := #[.int .u8 1, .int .u8 h, .int .u16 (born : Int), .int .u16 (stay : Int), .int .i64 2, .string ⟨#[]⟩, .int .i64 0, .int .u8 0, .int .u8 0, .slice none 0 0, .slice none 0 0]) (T := 46) (by simp) rfl
  have r7 : w1.cell? ⟨W.heap.size, 7, none⟩ = some (.int .u8 0) := E1.out.cell (cs := #[.int .u8 1, .int .u8 h, .int .u16 (born : Int), .int .u16 (stay : Int), .int .i64 2, .string ⟨#[]⟩, .int .i64 0, .int .u8 0, .int .u8 0, .slice none 0 0, .slice none 0 0]) (T := 46) (by simp) rfl
  have r8 : w1.cell? ⟨W.heap.size, 8, none⟩ = some (.int .u8 0) := E1.out.cell (cs := #[.int .u8 1, .int .u8 h, .int .u16 (born : Int), .int .u16 (stay : Int), .int .i64 2, .string ⟨#[]⟩, .int .i64 0, .int .u8 0, .int .u8 0, .slice none 0 0, .slice none 0 0]) (T := 46) (by simp) rfl
  have r9 : w1.cell? ⟨W.heap.size, 9, none⟩ = some (.slice none 0 0) := E1.out.cell (cs := #[.int .u8 1, .int .u8 h, .int .u16 (born : Int), .int .u16 (stay : Int), .int .i64 2, .string ⟨#[]⟩, .int .i64 0, .int .u8 0, .int .u8 0, .slice none 0 0, .slice none 0 0]) (T := 46) (by simp) rfl
  have r10 : w1.cell? ⟨W.heap.size, 10, none⟩ = some (.slice none 0 0) := E1.out.cell (cs := #[.int .u8 1, .int .u8 h, .int .u16 (born : Int), .int .u16 (stay : Int), .int .i64 2, .string ⟨#[]⟩, .int .i64 0, .int .u8 0, .int .u8 0, .slice none 0 0, .slice none 0 0]) (T := 46) (by simp) rfl
  go_wp2_with fail
  refine (K2.out _).mono ?_
  rintro e w2 ⟨rfl, hb⟩
  have E2 := Lib.hid (E1.out.kept hb)
  have hB2 := Lib.hid (below_then hB1.out hb hB1.out.size)
  clear hb r0 r1 r2 r3 r4 r5 r6 r7 r8 r9 r10
  go_upto_region 7 with fail
  refine RegInv.wp_region_inv 7 [29, 30, 31, 32, 33, 34, 35] (I7 w2 (lifeRule h born stay) (topoV k (n : Int) 0) most) (by kernel_rfl) (by kernel_rfl) ?_ ?_ ?_
  · exact ⟨_, _, _, _, _, _, _, rfl, N7.start (Below.refl _ _).drew⟩
  · intro i hi L vs w' hLi hd hI K hK
    obtain ⟨u0, u1, u2, u3, u4, u5, u6, rfl, hJ⟩ := hI
    have hJ' := Lib.hid hJ
    have hEw := Lib.hid (E2.out.kept hJ.B)
    clear hJ
    match i, hi with
    | 0, _ =>
      have r0 : w'.cell? ⟨W.heap.size, 0, none⟩ = some (.int .u8 1) := hEw.out.cell (cs := #[.int .u8 1, .int .u8 h, .int .u16 (born : Int), .int .u16 (stay : Int), .int .i64 2, .string ⟨#[]⟩, .int .i64 0, .int .u8 0, .int .u8 0, .slice none 0 0, .slice none 0 0]) (T := 46) (by simp) rfl
      have r1 : w'.cell? ⟨W.heap.size, 1, none⟩ = some (.int .u8 h) := hEw.out.cell (cs := #[.int .u8 1, .int .u8 h, .int .u16 (born : Int), .int .u16 (stay : Int), .int .i64 2, .string ⟨#[]⟩, .int .i64 0, .int .u8 0, .int .u8 0, .slice none 0 0, .slice none 0 0]) (T := 46) (by simp) rfl
      have r2 : w'.cell? ⟨W.heap.size, 2, none⟩ = some (.int .u16 (born : Int)) := hEw.out.cell (cs := #[.int .u8 1, .int .u8 h, .int .u16 (born : Int), .int .u16 (stay : Int), .int .i64 2, .string ⟨#[]⟩, .int .i64 0, .int .u8 0, .int .u8 0, .slice none 0 0, .slice none 0 0]) (T := 46) (by simp) rfl
      have r3 : w'.cell? ⟨W.heap.size, 3, none⟩ = some (.int .u16 (stay : Int)) := hEw.out.cell (cs := #[.int .u8 1, .int .u8 h, .int .u16 (born : Int), .int .u16 (stay : Int), .int .i64 2, .string ⟨#[]⟩, .int .i64 0, .int .u8 0, .int .u8 0, .slice none 0 0, .slice none 0 0]) (T := 46) (by simp) rfl
      have r4 : w'.cell? ⟨W.heap.size, 4, none⟩ = some (.int .i64 2) := hEw.out.cell (cs := #[.int .u8 1, .int .u8 h, .int .u16 (born : Int), .int .u16 (stay : Int), .int .i64 2, .string ⟨#[]⟩, .int .i64 0, .int .u8 0, .int .u8 0, .slice none 0 0, .slice none 0 0]) (T := 46) (by simp) rfl
      have r5 : w'.cell? ⟨W.heap.size, 5, none⟩ = some (.string ⟨#[]⟩) := hEw.out.cell (cs := #[.int .u8 1, .int .u8 h, .int .u16 (born : Int), .int .u16 (stay : Int), .int .i64 2, .string ⟨#[]⟩, .int .i64 0, .int .u8 0, .int .u8 0, .slice none 0 0, .slice none 0 0]) (T := 46) (by simp) rfl
      have r6 : w'.cell? ⟨W.heap.size, 6, none⟩ = some (.int .i64 0) := hEw.out.cell (cs := #[.int .u8 1, .int .u8 h, .int .u16 (born : Int), .int .u16 (stay : Int), .int .i64 2, .string ⟨#[]⟩, .int .i64 0, .int .u8 0, .int .u8 0, .slice none 0 0, .slice none 0 0]) (T := 46) (by simp) rfl
      have r7 : w'.cell? ⟨W.heap.size, 7, none⟩ = some (.int .u8 0) := hEw.out.cell (cs := #[.int .u8 1, .int .u8 h, .int .u16 (born : Int), .int .u16 (stay : Int), .int .i64 2, .string ⟨#[]⟩, .int .i64 0, .int .u8 0, .int .u8 0, .slice none 0 0, .slice none 0 0]) (T := 46) (by simp) rfl
      have r8 : w'.cell? ⟨W.heap.size, 8, none⟩ = some (.int .u8 0) := hEw.out.cell (cs := #[.int .u8 1, .int .u8 h, .int .u16 (born : Int), .int .u16 (stay : Int), .int .i64 2, .string ⟨#[]⟩, .int .i64 0, .int .u8 0, .int .u8 0, .slice none 0 0, .slice none 0 0]) (T := 46) (by simp) rfl
      have r9 : w'.cell? ⟨W.heap.size, 9, none⟩ = some (.slice none 0 0) := hEw.out.cell (cs := #[.int .u8 1, .int .u8 h, .int .u16 (born : Int), .int .u16 (stay : Int), .int .i64 2, .string ⟨#[]⟩, .int .i64 0, .int .u8 0, .int .u8 0, .slice none 0 0, .slice none 0 0]) (T := 46) (by simp) rfl
      have r10 : w'.cell? ⟨W.heap.size, 10, none⟩ = some (.slice none 0 0) := hEw.out.cell (cs := #[.int .u8 1, .int .u8 h, .int .u16 (born : Int), .int .u16 (stay : Int), .int .i64 2, .string ⟨#[]⟩, .int .i64 0, .int .u8 0, .int .u8 0, .slice none 0 0, .slice none 0 0]) (T := 46) (by simp) rfl
      refine wpOp_step rfl (fun K' hK' => ?_)
      go_simp
      have hk := hK' _ _ (hK [lifeRule h born stay, u1, u2, u3, u4, u5, u6] _ ⟨_, _, _, _, _, _, _, rfl, hJ'.out.s0⟩)
      revert hk
      go_simp
    | 1, _ =>
      have hd' : ([0] : List Nat).all L = true := hd
      have h0 : L 0 = true := by simpa using hd'
      have hu : u0 = lifeRule h born stay := hJ'.out.l0 h0
      subst hu
      refine wpOp_step rfl (fun K' hK' => ?_)
      go_simp
      refine (own49 (h := h) (born := born) (stay := stay) _).mono ?_
      rintro e w6 ⟨rfl, hb6⟩
      have hn' := Lib.hid (hJ'.out.s1 hb6)
      clear hb6
      have hk := hK' _ _ (hK [lifeRule h born stay, lifeRule h born stay, u2, u3, u4, u5, u6] _ ⟨_, _, _, _, _, _, _, rfl, hn'.out⟩)
      revert hk
      go_simp
    | 2, _ =>
      have t0 : w'.cell? ⟨W.heap.size + 1, 0, none⟩ = some (.int .u8 k) := hEw.out.cell (cs := #[.int .u8 k, .int .i64 (n : Int), .int .i64 0, .int .u8 0, .int .i64 0]) (T := 49) (by simp) rfl
      have t1 : w'.cell? ⟨W.heap.size + 1, 1, none⟩ = some (.int .i64 (n : Int)) := hEw.out.cell (cs := #[.int .u8 k, .int .i64 (n : Int), .int .i64 0, .int .u8 0, .int .i64 0]) (T := 49) (by simp) rfl
      have t2 : w'.cell? ⟨W.heap.size + 1, 2, none⟩ = some (.int .i64 0) := hEw.out.cell (cs := #[.int .u8 k, .int .i64 (n : Int), .int .i64 0, .int .u8 0, .int .i64 0]) (T := 49) (by simp) rfl
      have t3 : w'.cell? ⟨W.heap.size + 1, 3, none⟩ = some (.int .u8 0) := hEw.out.cell (cs := #[.int .u8 k, .int .i64 (n : Int), .int .i64 0, .int .u8 0, .int .i64 0]) (T := 49) (by simp) rfl
      have t4 : w'.cell? ⟨W.heap.size + 1, 4, none⟩ = some (.int .i64 0) := hEw.out.cell (cs := #[.int .u8 k, .int .i64 (n : Int), .int .i64 0, .int .u8 0, .int .i64 0]) (T := 49) (by simp) rfl
      refine wpOp_step rfl (fun K' hK' => ?_)
      go_simp
      have hk := hK' _ _ (hK [u0, u1, topoV k (n : Int) 0, u3, u4, u5, u6] _ ⟨_, _, _, _, _, _, _, rfl, hJ'.out.s2⟩)
      revert hk
      go_simp
    | 3, _ =>
      refine wpOp_step rfl (fun K' hK' => ?_)
      go_simp
      have hk := hK' _ _ (hK [u0, u1, u2, .int .i64 2, u4, u5, u6] _ ⟨_, _, _, _, _, _, _, rfl, hJ'.out.s3⟩)
      revert hk
      go_simp
    | 4, _ =>
      refine wpOp_step rfl (fun K' hK' => ?_)
      go_simp
      have hk := hK' _ _ (hK [u0, u1, u2, u3, .int .i64 (most : Int), u5, u6] _ ⟨_, _, _, _, _, _, _, rfl, hJ'.out.s4⟩)
      revert hk
      go_simp
    | 5, _ =>
      refine wpOp_step rfl (fun K' hK' => ?_)
      go_simp
      have hk := hK' _ _ (hK [u0, u1, u2, u3, u4, .map (some w'.heap.size), u6] _ ⟨_, _, _, _, _, _, _, rfl, hJ'.out.s5⟩)
      revert hk
      go_simp
    | 6, _ =>
      refine wpOp_step rfl (fun K' hK' => ?_)
      go_simp
      have hk := hK' _ _ (hK [u0, u1, u2, u3, u4, u5, .map (some w'.heap.size)] _ ⟨_, _, _, _, _, _, _, rfl, hJ'.out.s6⟩)
      revert hk
      go_simp
  · intro vs w' hI
    obtain ⟨u0, u1, u2, u3, u4, u5, u6, rfl, hJ⟩ := hI
    obtain ⟨bn, rfl, hbn, hM1⟩ := hJ.l5 (by decide)
    obtain ⟨bw, rfl, hbw, hM2⟩ := hJ.l6 (by decide)
    have hne : bn ≠ bw := fun e => hJ.ne (by decide) (by decide) (by rw [e])
    obtain rfl : u1 = lifeRule h born stay := hJ.l1 (by decide)
    obtain rfl : u2 = topoV k (n : Int) 0 := hJ.l2 (by decide)
    obtain rfl : u3 = .int .i64 2 := hJ.l3 (by decide)
    obtain rfl : u4 = .int .i64 (most : Int) := hJ.l4 (by decide)
    have hB3 := Lib.hid (below_then hB2.out hJ.B hB2.out.size)
    have E3 := Lib.hid (E2.out.kept hJ.B)
    have hM1' := Lib.hid hM1
    have hM2' := Lib.hid hM2
    clear hJ hM1 hM2
    simp only [List.drop_succ_cons, List.drop_zero]
    go_simp
    have x1 : w'.cell? ⟨W.heap.size + 1, 1, none⟩ = some (.int .i64 (n : Int)) := E3.out.cell (cs := #[.int .u8 k, .int .i64 (n : Int), .int .i64 0, .int .u8 0, .int .i64 0]) (T := 49) (by simp) rfl
    have hbsz : W.heap.size + 1 < w'.heap.size := by have := E3.out.lt (x := (W.heap.size + 1, #[.int .u8 k, .int .i64 (n : Int), .int .i64 0, .int .u8 0, .int .i64 0], 49)) (by simp); exact this
    go_upto_region 8 with fail
    obtain ⟨W4, hW4⟩ : ∃ W4, W4 = w'.alloc (.cells (bookCells ⟨h, born, stay, k, n, most⟩ bn (.slice none 0 0) bw) 60) := ⟨_, rfl⟩
    have hbook : BookAt ⟨h, born, stay, k, n, most⟩ W.heap.size W4 w'.heap.size bn bw (.slice none 0 0) [] [] [] := by
      have hb : Below w'.heap.size w' W4 := by rw [hW4]; exact below_new _
      refine ⟨by rw [hW4]; exact heap_alloc_new w' _, mapis_below hM1'.out hb, mapis_below hM2'.out hb, hne, hB3.out.size, by have := hB2.out.size; omega, by have := hB2.out.size; omega, World.ownsRow_nil _ _ _ _, nofun, nofun, nofun, List.nodup_nil, by simp, m2, nofun⟩
    have hB4 : Hid (Below W.heap.size W W4) := by rw [hW4]; exact hB3.out.alloc hB3.out.size _
    have y1 : W4.cell? ⟨W.heap.size + 1, 1, none⟩ = some (.int .i64 (n : Int)) := by rw [hW4]; exact cell_kept (below_new _) x1
    rw [← hW4]
    have hbook' := Lib.hid hbook
    clear hbook hW4 x1
    have hz0 : ∀ j, (List.replicate n 0).getD j 0 < 2 := fun j => by
      by_cases hj : j < n <;> simp [hj]
    have ha : Hid (after [] most (List.replicate n 0) = [List.replicate n 0]) := by
      show _ = _
      unfold after
      rw [if_neg (by simp), if_neg (by simp; omega)]
      rfl
    have KB := Lib.hid (fun (hh : Book ⟨h, born, stay, k, n, most⟩ W.heap.size (W4.alloc (.cells (madeCells #[.int .u8 0] n) 5)) w'.heap.size bn bw [] []) => number50 hh hn1 (List.length_replicate ..) hz0 (made_has W4 n))
    have hb5 : Hid (Book ⟨h, born, stay, k, n, most⟩ W.heap.size (W4.alloc (.cells (madeCells #[.int .u8 0] n) 5)) w'.heap.size bn bw [] []) := ⟨_, _, hbook'.out.kept' (below_new _)⟩
    clear hz0
    go_wp2_with fail
    refine (KB.out hb5.out).mono ?_
    rintro e w6 ⟨rfl, hbk6, hyf⟩
    rw [ha.out] at hbk6
    have hbk6' := Lib.hid hbk6
    have hB6 : Hid (Below W.heap.size W w6) := (hB4.out.alloc hB4.out.size _).trans hyf.1
    clear hbk6 hyf
    go_wp2
    go_ret2
    exact ⟨_, bn, bw, rfl, hbk6'.out, hB6.out⟩
end Go.Proofs.Ytigghbehnnghnaa
