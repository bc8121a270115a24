import Derived.Test.YtigghbehnnghnaaRlW
namespace Go.Proofs.Ytigghbehnnghnaa
open Go.RowKit Go.RowBits Go.MapRaw Go.Maps
set_option linter.unusedSimpArgs false
set_option linter.unusedVariables false

/-! ### RowsNames -/
def P1 : BP := ⟨1, 8, 12, 2, 4, 1⟩
def P2 : BP := ⟨1, 8, 12, 2, 4, 2⟩
def rowsN : List (List Nat) := [[0, 0, 0, 0], [0, 1, 1, 1]]
theorem fb1 : after rows1 1 [0, 0, 0, 0] = rows1 ∧ idOf rows1 1 [0, 0, 0, 0] = 0 ∧ errOf rows1 1 [0, 0, 0, 0] = 0 := by decide
theorem fb2 : after rows1 1 [0, 0, 0, 1] = rows1 ∧ idOf rows1 1 [0, 0, 0, 1] = 0 ∧ errOf rows1 1 [0, 0, 0, 1] = 4 := by decide
theorem fb3 : after rows1 2 [0, 1, 1, 1] = rowsN ∧ idOf rows1 2 [0, 1, 1, 1] = 1 ∧ errOf rows1 2 [0, 1, 1, 1] = 0 := by decide
theorem fb4 : nextRow P2 rowsN 0 1 0 = [0, 0, 1, 0] := by decide +kernel
theorem fb5 : after rowsN 2 [0, 0, 1, 0] = rowsN ∧ idOf rowsN 2 [0, 0, 1, 0] = 0 ∧ errOf rowsN 2 [0, 0, 1, 0] = 4 := by decide
theorem lt2_0001 (j : Nat) : [0, 0, 0, 1].getD j 0 < 2 := by match j with | 0 | 1 | 2 | 3 => decide | (j + 4) => simp
theorem lt2_0000 (j : Nat) : [0, 0, 0, 0].getD j 0 < 2 := by match j with | 0 | 1 | 2 | 3 => decide | (j + 4) => simp
theorem lt2_0111 (j : Nat) : [0, 1, 1, 1].getD j 0 < 2 := by match j with | 0 | 1 | 2 | 3 => decide | (j + 4) => simp
/-- A literal of four bytes, laid into new memory, and Row of it. -/
theorem rowLit {p : BP} {B : Nat} {W : World} {bk bn bw : Nat} {rows : List (List Nat)} {wk : List ((Nat × Nat × Nat) × Nat)} (h : Book p B W bk bn bw rows wk) (hp : p.n = 4) (a b c d : Nat) (h2 : ∀ j, [a, b, c, d].getD j 0 < 2) {R : List (List Nat)} {i : Nat} {E : Int} (hf : after rows p.most [a, b, c, d] = R ∧ idOf rows p.most [a, b, c, d] = i ∧ errOf rows p.most [a, b, c, d] = E) :
    Calls Try.prog 21 #[.pointer (some ⟨bk, 0, none⟩), .slice (some ⟨W.heap.size, 0, none⟩) 4 4] (W.alloc (.cells #[yv a, yv b, yv c, yv d] 5)) fun e w' => e = .returned (.tuple #[.int .i64 (i : Int), .int .i64 E]) ∧ Book p B w' bk bn bw R wk ∧ YF B W w' := by
  have Y1 : YBlk (W.alloc (.cells #[yv a, yv b, yv c, yv d] 5)) W.heap.size [a, b, c, d] := YBlk.new W _ _ rfl
  have hb4 : Below W.heap.size W (W.alloc (.cells #[yv a, yv b, yv c, yv d] 5)) := below_new _
  have hs := h.size
  have KR := row21 (h.kept hb4) (by omega) (r := [a, b, c, d]) (by simp [hp]) h2 (Y1.has (cap := 4))
  rw [hf.1, hf.2.1, hf.2.2] at KR
  exact KR.mono fun e w' ⟨he, hk, hy⟩ => ⟨he, hk, (YF.of_below hb4 hs).trans hy⟩

set_option maxRecDepth 20000 in
set_option maxHeartbeats 8000000 in
theorem rowsNames_walk (w : World) : Calls Try.prog 4 #[] w fun e w' => e = .returned (.bool true) ∧ Below w.heap.size w w' := by
  have K1 := Lib.hid alive17
  have KC := Lib.hid conway19
  have KF := Lib.hid four20
  have KB := Lib.hid (fun W => new18 (W := W) (most := 65536) strip_conway (by omega))
  have KE := Lib.hid (fun W => new18_most (W := W) (most := 65537) strip_conway (by omega))
  have KS := Lib.hid (fun W => new18 (W := W) (most := 1) strip_conway (by omega))
  have KT := Lib.hid (fun W => new18 (W := W) (most := 2) strip_conway (by omega))
  go_enter Try.func4, Try.ntmps4
  go_wp2_with fail
  refine (K1.out _).mono ?_
  rintro e w1 ⟨rfl, hb⟩
  have hB1 := Lib.hid hb
  clear hb
  -- the greatest book
  go_wp2_with fail
  refine (KC.out _).mono ?_
  rintro e w2 ⟨rfl, hb⟩
  have hB2 := Lib.hid (below_then hB1.out hb hB1.out.size)
  clear hb
  go_wp2_with fail
  refine (KF.out _).mono ?_
  rintro e w3 ⟨rfl, hb⟩
  have hB3 := Lib.hid (below_then hB2.out hb hB2.out.size)
  clear hb
  go_wp2_with fail
  refine (KB.out _).mono ?_
  rintro e w4 ⟨bk0, bn0, bw0, rfl, _, hb⟩
  have hB4 := Lib.hid (below_then hB3.out hb hB3.out.size)
  clear hb
  -- one more
  go_wp2_with fail
  refine (KC.out _).mono ?_
  rintro e w5 ⟨rfl, hb⟩
  have hB5 := Lib.hid (below_then hB4.out hb hB4.out.size)
  clear hb
  go_wp2_with fail
  refine (KF.out _).mono ?_
  rintro e w6 ⟨rfl, hb⟩
  have hB6 := Lib.hid (below_then hB5.out hb hB5.out.size)
  clear hb
  go_wp2_with fail
  refine (KE.out _).mono ?_
  rintro e w7 ⟨rfl, hb⟩
  have hB7 := Lib.hid (below_then hB6.out hb hB6.out.size)
  clear hb
  -- the smallest
  go_wp2_with fail
  refine (KC.out _).mono ?_
  rintro e w8 ⟨rfl, hb⟩
  have hB8 := Lib.hid (below_then hB7.out hb hB7.out.size)
  clear hb
  go_wp2_with fail
  refine (KF.out _).mono ?_
  rintro e w9 ⟨rfl, hb⟩
  have hB9 := Lib.hid (below_then hB8.out hb hB8.out.size)
  clear hb
  go_wp2_with fail
  refine (KS.out _).mono ?_
  rintro e wa ⟨bk1, bn1, bw1, rfl, hbk, hb⟩
  have hBa := Lib.hid (below_then hB9.out hb hB9.out.size)
  have hbka : Hid (Book P1 w9.heap.size wa bk1 bn1 bw1 rows1 []) := hbk
  clear hb hbk
  have KR := Lib.hid (rowLit hbka.out rfl 0 0 0 0 lt2_0000 fb1)
  go_wp2_with fail
  refine (KR.out).mono ?_
  rintro e wb ⟨rfl, hbk, hy⟩
  have hBb := Lib.hid (hBa.out.trans (hy.1.mono hB9.out.size))
  have hbkb := Lib.hid hbk
  clear hbk hy KR
  have KR := Lib.hid (rowLit hbkb.out rfl 0 0 0 1 lt2_0001 fb2)
  go_wp2_with fail
  refine (KR.out).mono ?_
  rintro e wc ⟨rfl, hbk, hy⟩
  have hBc := Lib.hid (hBb.out.trans (hy.1.mono hB9.out.size))
  have hbkc := Lib.hid hbk
  clear hbk hy KR
  -- of two
  go_wp2_with fail
  refine (KC.out _).mono ?_
  rintro e wd ⟨rfl, hb⟩
  have hC1 := Lib.hid hb
  clear hb
  go_wp2_with fail
  refine (KF.out _).mono ?_
  rintro e we ⟨rfl, hb⟩
  have hC2 := Lib.hid (below_then hC1.out hb hC1.out.size)
  clear hb
  go_wp2_with fail
  refine (KT.out _).mono ?_
  rintro e wf ⟨bk2, bn2, bw2, rfl, hbk, hb⟩
  have hC3 := Lib.hid (below_then hC2.out hb hC2.out.size)
  have hbkf : Hid (Book P2 we.heap.size wf bk2 bn2 bw2 rows1 []) := hbk
  clear hb hbk
  have hb4 : Below wf.heap.size wf (wf.alloc (.cells #[yv 2, yv 0, yv 0, yv 0] 5)) := below_new _
  have Y1 : YBlk (wf.alloc (.cells #[yv 2, yv 0, yv 0, yv 0] 5)) wf.heap.size [2, 0, 0, 0] := YBlk.new wf _ _ rfl
  have KR := Lib.hid (row21_state (hbkf.out.kept hb4) (l := [0, 0, 0]) rfl (by decide) Y1 (by omega) (by omega) (cap := 4))
  have hC4 := Lib.hid (below_then hC3.out hb4 hC3.out.size)
  have hbkg := Lib.hid (hbkf.out.kept hb4)
  clear Y1 hb4
  go_wp2_with fail
  refine (KR.out).mono ?_
  rintro e wg ⟨rfl, rfl⟩
  clear KR
  generalize wf.alloc (.cells #[yv 2, yv 0, yv 0, yv 0] 5) = wg at *
  have KR := Lib.hid (rowLit hbkg.out rfl 0 1 1 1 lt2_0111 fb3)
  go_wp2_with fail
  refine (KR.out).mono ?_
  rintro e wh ⟨rfl, hbk, hy⟩
  have hsg := hbkg.out.size
  have hC5 := Lib.hid (hC4.out.trans (hy.1.mono hC2.out.size))
  have hbkh := Lib.hid hbk
  have hsh := hbk.size
  clear hbk hy KR
  have KN := next22 (p := P2) strip_conway hbkh.out (fun x hx => by cases hx) (a := 0) (b := 1) (c := 0) (by decide) (by decide) (by decide) (by decide)
  rw [show P2.most = 2 from rfl, fb4, fb5.1, fb5.2.1, fb5.2.2] at KN
  have KN' := Lib.hid KN
  clear KN
  go_wp2_with fail
  refine (KN'.out).mono ?_
  rintro e wi ⟨rfl, ⟨wk, hbk, hwk⟩, hy⟩
  have hC6 := Lib.hid (hC5.out.trans (hy.1.mono hC2.out.size))
  have hbki := Lib.hid hbk
  have hwk' : Hid (WkOk P2 rowsN wk) := hwk
  clear hbk hy KN' hwk
  have KN := next22 (p := P2) strip_conway hbki.out hwk'.out (a := 0) (b := 1) (c := 0) (by decide) (by decide) (by decide) (by decide)
  rw [show P2.most = 2 from rfl, fb4, fb5.1, fb5.2.1, fb5.2.2] at KN
  have KN' := Lib.hid KN
  clear KN
  go_wp2_with fail
  refine (KN'.out).mono ?_
  rintro e wj ⟨rfl, ⟨wk2, hbk, hwk⟩, hy⟩
  have hC7 := Lib.hid (hC6.out.trans (hy.1.mono hC2.out.size))
  have hN : Hid (Calls Try.prog 23 #[.pointer (some ⟨bk2, 0, none⟩)] wj fun e w' => e = .returned (.int .i64 2) ∧ wj = w') := by
    obtain ⟨kv, ks, hat⟩ := hbk
    exact (count23 hat).mono fun e w' ⟨he, hw⟩ => ⟨he, hw.symm⟩
  have hM : Hid (Calls Try.prog 23 #[.pointer (some ⟨bk1, 0, none⟩)] wj fun e w' => e = .returned (.int .i64 1) ∧ wj = w') := by
    obtain ⟨kv, ks, hat⟩ := hbkc.out.kept hC7.out
    exact (count23 hat).mono fun e w' ⟨he, hw⟩ => ⟨he, hw.symm⟩
  have hEnd : Hid (Below w.heap.size w wj) := hBc.out.trans (hC7.out.mono hBc.out.size)
  clear hbk hy KN' hwk
  go_wp2_with fail
  refine (hN.out).mono ?_
  rintro e w' ⟨rfl, rfl⟩
  go_wp2_with fail
  refine (hM.out).mono ?_
  rintro e w' ⟨rfl, rfl⟩
  go_wp2_with fail
  go_ret
  exact ⟨rfl, hEnd.out⟩
end Go.Proofs.Ytigghbehnnghnaa
