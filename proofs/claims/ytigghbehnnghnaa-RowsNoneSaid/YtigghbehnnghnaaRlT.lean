import Derived.Test.YtigghbehnnghnaaRlS
namespace Go.Proofs.Ytigghbehnnghnaa
open Go.RowKit Go.RowBits Go.MapRaw Go.Maps
set_option linter.unusedSimpArgs false
set_option linter.unusedVariables false

set_option maxRecDepth 20000 in
set_option maxHeartbeats 4000000 in
theorem alive17 (w : World) : Calls Try.prog 17 #[] w fun e w' => e = .returned (.bool true) ∧ Below w.heap.size w w' := by
  have K1 := Lib.hid (fun W => new18 (W := W) (most := 3) strip_conway (by omega))
  have K2 := Lib.hid conway19
  have K3 := Lib.hid four20
  go_enter Try.func17, Try.ntmps17
  go_wp2_with fail
  refine (K2.out _).mono ?_
  rintro e w1 ⟨rfl, hb⟩
  have hB1 := Lib.hid hb
  clear hb
  go_wp2_with fail
  refine (K3.out _).mono ?_
  rintro e w2 ⟨rfl, hb⟩
  have hB2 := Lib.hid (below_then hB1.out hb hB1.out.size)
  clear hb
  go_wp2_with fail
  refine (K1.out _).mono ?_
  rintro e w3 ⟨bk, bn, bw, rfl, hbk, hb⟩
  have hB3 := Lib.hid (below_then hB2.out hb hB2.out.size)
  clear hb
  have hs3 := hbk.size
  have hbk1 : Hid (Book P0 w2.heap.size w3 bk bn bw rows1 []) := hbk
  clear hbk
  have Y1 : YBlk (w3.alloc (.cells #[.int .u8 1, .int .u8 1, .int .u8 1, .int .u8 0] 5)) w3.heap.size [1, 1, 1, 0] := YBlk.new w3 _ _ rfl
  have hb4 : Below w3.heap.size w3 (w3.alloc (.cells #[.int .u8 1, .int .u8 1, .int .u8 1, .int .u8 0] 5)) := below_new _
  have KR := row21 (hbk1.out.kept hb4) (by decide) (r := [1, 1, 1, 0]) rfl (fun j => by match j with | 0 | 1 | 2 | 3 => decide | (j + 4) => simp) (Y1.has (cap := 4))
  rw [show P0.most = 3 from rfl, fa1.1, fa1.2.1, fa1.2.2] at KR
  have KR' := Lib.hid KR
  clear KR Y1 hb4
  go_wp2_with fail
  refine (KR'.out).mono ?_
  rintro e w4 ⟨rfl, hbk, hy⟩
  have hs4 := hbk.size
  have KN := next22 (p := P0) strip_conway hbk (fun x hx => by cases hx) (a := 0) (b := 1) (c := 0) (by decide) (by decide) (by decide) (by decide)
  rw [show P0.most = 3 from rfl, fa2, fa3.1, fa3.2.1, fa3.2.2] at KN
  have KN' := Lib.hid KN
  have hbk2 : Hid (Book P0 w2.heap.size w4 bk bn bw rows2 []) := hbk
  have hy4 := Lib.hid hy
  clear KN hbk hy
  go_wp2_with fail
  refine (KN'.out).mono ?_
  rintro e w5 ⟨rfl, ⟨wk, hbk, hwk⟩, hy⟩
  have hs5 := hbk.size
  have hbk3 : Hid (Book P0 w2.heap.size w5 bk bn bw rows3 wk) := hbk
  have hy5 := Lib.hid (hy4.out.trans hy)
  obtain ⟨kv, ks, hat⟩ := hbk
  have KC := Lib.hid (cells24 hat (by decide) (id := 2) (by decide))
  clear hy hat hwk
  go_wp2_with fail
  refine (KC.out).mono ?_
  rintro e w6 ⟨g, rfl, hg, hY, hb6⟩
  have hY' : Hid (YBlk w6 g [0, 1, 0, 0]) := hY
  have hbk4 := Lib.hid (hbk3.out.kept hb6)
  have hy6 := Lib.hid (hy5.out.trans (YF.of_below hb6 hs5))
  have hs6 := hb6.size
  clear hY hb6
  have Y1 : YBlk (w6.alloc (.cells #[.int .u8 1, .int .u8 1, .int .u8 1, .int .u8 1] 5)) w6.heap.size [1, 1, 1, 1] := YBlk.new w6 _ _ rfl
  have hb7 : Below w6.heap.size w6 (w6.alloc (.cells #[.int .u8 1, .int .u8 1, .int .u8 1, .int .u8 1] 5)) := below_new _
  have KR2 := row21 (hbk4.out.kept hb7) (by decide) (r := [1, 1, 1, 1]) rfl (fun j => by match j with | 0 | 1 | 2 | 3 => decide | (j + 4) => simp) (Y1.has (cap := 4))
  rw [show P0.most = 3 from rfl, fa4.1, fa4.2.1, fa4.2.2] at KR2
  have KR2' := Lib.hid KR2
  have hb7' := Lib.hid hb7
  clear KR2 Y1 hb7
  go_wp2_with fail
  refine (KR2'.out).mono ?_
  rintro e w7 ⟨rfl, hbk, hy⟩
  have hs7 := hbk.size
  have hy7 := Lib.hid ((hy6.out.trans (YF.of_below hb7'.out (Nat.le_trans hs5 hs6))).trans hy)
  have hyY : Hid (YBlk w7 g [0, 1, 0, 0]) := (hy.y (hY'.out.kept (hb7'.out)))
  have hbk5 : Hid (Book P0 w2.heap.size w7 bk bn bw rows3 wk) := hbk
  have hC := Lib.hid (fun W (hb : Below w7.heap.size w7 W) => (by
    obtain ⟨kv, ks, hat⟩ := hbk5.out.kept hb
    exact count23 hat : Calls Try.prog 23 #[.pointer (some ⟨bk, 0, none⟩)] W fun e w' => e = .returned (.int .i64 3) ∧ w' = W))
  have hconv1 : Hid ((convert 53 9 (.slice (some ⟨g, 0, none⟩) 4 4)).run Try.prog w7 = .ok (strv [0, 1, 0, 0]) w7) := conv_str (hyY.out.has (cap := 4)) (by decide) (by decide)
  have Y1 : YBlk (w7.alloc (.cells #[.int .u8 0, .int .u8 1, .int .u8 0, .int .u8 0] 5)) w7.heap.size [0, 1, 0, 0] := YBlk.new w7 _ _ rfl
  have hconv2 : Hid ((convert 53 9 (.slice (some ⟨w7.heap.size, 0, none⟩) 4 4)).run Try.prog (w7.alloc (.cells #[.int .u8 0, .int .u8 1, .int .u8 0, .int .u8 0] 5)) = .ok (strv [0, 1, 0, 0]) (w7.alloc (.cells #[.int .u8 0, .int .u8 1, .int .u8 0, .int .u8 0] 5))) := conv_str (Y1.has (cap := 4)) (by decide) (by decide)
  clear hy hbk Y1
  rw [show P0.n = 4 from rfl]
  have hqg : Hid (∀ W, Sem.run Try.prog (eqGuard BinOp.eql 9 (Operand.tmp 69) (Operand.tmp 71) (strv [0, 1, 0, 0]) (strv [0, 1, 0, 0])) W = .ok () W) := fun W => rfl
  have hqb : Hid (∀ W, Sem.run Try.prog (binOp BinOp.eql 9 (strv [0, 1, 0, 0]) (strv [0, 1, 0, 0])) W = .ok (.bool true) W) := fun W => by
    unfold strv
    go_simp
  go_wp2_with (first | (rw [hconv1.out]) | (rw [hconv2.out]) | fail)
  simp only [hqg.out, hqb.out, Result.andThen]
  go_wp2_with fail
  refine (hC.out _ (below_new _)).mono ?_
  rintro e w8 ⟨rfl, rfl⟩
  go_wp2_with fail
  refine bodyPost_ret (v := .bool true) ?_ rfl ⟨rfl, ?_⟩
  · simp only [results, Try.f17, Array.toList]
    go_simp
  have q2 := hB2.out.size
  have qs := hB3.out.size
  have q7 := (hy7.out.1.trans ((below_new (.cells #[.int .u8 0, .int .u8 1, .int .u8 0, .int .u8 0] 5)).mono hs7)).mono q2
  exact (below_then hB3.out (below_new _) qs).trans q7
end Go.Proofs.Ytigghbehnnghnaa
