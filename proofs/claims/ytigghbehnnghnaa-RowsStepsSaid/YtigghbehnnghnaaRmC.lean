import Derived.Test.YtigghbehnnghnaaRmB
namespace Go.Proofs.Ytigghbehnnghnaa
open Go.RowKit Go.RowBits Go.MapRaw Go.Maps
set_option linter.unusedSimpArgs false
set_option linter.unusedVariables false

/-! ### RowsSteps -/
abbrev lists3 (va vb vc : Value) : Value := .agg #[va, vb, vc]
set_option maxRecDepth 20000 in
set_option maxHeartbeats 8000000 in
theorem rowsSteps_walk {h : Int} {born stay : Nat} (hb : born < 65536) (hs : stay < 65536) (torus : Bool) (width : Int) {va vb vc : Value} {la lb lc : List Nat} (w : World) (ha : HasY w va la) (hbb : HasY w vb lb) (hcc : HasY w vc lc) :
    Calls Try.prog 7 #[.agg #[.int .u8 h, .int .u16 (born : Int), .int .u16 (stay : Int)], .bool torus, .int .i64 width, lists3 va vb vc] w fun e w' => e = .returned (.bool true) ∧ Below w.heap.size w w' := by
  have K1 := Lib.hid alive17
  have K2 := Lib.hid (fun W => strip25 (h := h) hb hs torus width W)
  have hw20 := wideOf_eq width
  have S0 := strip_of born stay torus width
  generalize wideOf width = n at *
  generalize born &&& 510 = bo at *
  generalize stay &&& 511 = st at *
  generalize kindOf torus = kk at *
  have S := Lib.hid S0
  have K3 := Lib.hid (fun W => new18 (W := W) (most := 100) S0 (by omega))
  have K4 := Lib.hid (fun W (v : Value) (l : List Nat) (hv : HasY W v l) => row26 (n := n) (by omega) hv)
  have ha' := Lib.hid ha
  have hb' := Lib.hid hbb
  have hc' := Lib.hid hcc
  have n1 : 1 ≤ n := by omega
  have n2 : n ≤ 20 := by omega
  clear S0 ha hbb hcc hw20 hb hs
  go_enter Try.func7, Try.ntmps7
  go_wp2_with fail
  refine (K1.out _).mono ?_
  rintro e w1 ⟨rfl, hb⟩
  have E1 := Lib.hid ((((Blks.nil w).alloc rfl #[.int .u8 h, .int .u16 (born : Int), .int .u16 (stay : Int)] 24).alloc (n := w.heap.size + 1) (by simp) #[va, vb, vc] 65).kept hb)
  have hz1 : w.heap.size + 1 < w1.heap.size := by have := hb.size; simp at this; omega
  have hB1 := Lib.hid (below_then (B := w.heap.size) ((below_new _).alloc (by simp) _) hb (by simp; omega))
  have l0 : w1.cell? ⟨w.heap.size, 0, none⟩ = some (.int .u8 h) := E1.out.cell (cs := #[.int .u8 h, .int .u16 (born : Int), .int .u16 (stay : Int)]) (T := 24) (by simp) rfl
  have l1 : w1.cell? ⟨w.heap.size, 1, none⟩ = some (.int .u16 (born : Int)) := E1.out.cell (cs := #[.int .u8 h, .int .u16 (born : Int), .int .u16 (stay : Int)]) (T := 24) (by simp) rfl
  have l2 : w1.cell? ⟨w.heap.size, 2, none⟩ = some (.int .u16 (stay : Int)) := E1.out.cell (cs := #[.int .u8 h, .int .u16 (born : Int), .int .u16 (stay : Int)]) (T := 24) (by simp) rfl
  clear hb
  go_wp2_with fail
  refine (K2.out _).mono ?_
  rintro e w2 ⟨rfl, hb⟩
  have E2 := Lib.hid (E1.out.kept hb)
  have hz2 : w1.heap.size ≤ w2.heap.size := hb.size
  have hB2 := Lib.hid (below_then hB1.out hb hB1.out.size)
  clear hb l0 l1 l2
  go_wp2_with fail
  refine (K3.out _).mono ?_
  rintro e w3 ⟨bk, bn, bw, rfl, hbk, hb⟩
  have E3 := Lib.hid (((E2.out.alloc rfl #[.int .u8 1, .int .u8 1, .int .u16 (bo : Int), .int .u16 (st : Int), .int .i64 2, .string ⟨#[]⟩, .int .i64 0, .int .u8 0, .int .u8 0, .slice none 0 0, .slice none 0 0] 46).alloc (n := w2.heap.size + 1) (by simp) #[.int .u8 kk, .int .i64 (n : Int), .int .i64 0, .int .u8 0, .int .i64 0] 49).kept hb)
  have hz3 : w2.heap.size + 1 < w3.heap.size := by have := hb.size; simp at this; omega
  have hB3 := Lib.hid (below_then (B := w.heap.size) ((hB2.out.alloc hB2.out.size _).alloc (by have := hB2.out.size; simp; omega) _) hb (by have := hB2.out.size; simp; omega))
  have hs3 := hbk.size
  have hB3le : Hid (w.heap.size ≤ w2.heap.size + 1 + 1) := by have := hB2.out.size; show w.heap.size ≤ w2.heap.size + 1 + 1; omega
  have bk3' : Book ⟨1, bo, st, kk, n, 100⟩ (w2.heap.size + 1 + 1) w3 bk bn bw [List.replicate n 0] [] := by simpa using hbk
  have bk3 := Lib.hid bk3'
  have wk3' : WkOk ⟨1, bo, st, kk, n, 100⟩ [List.replicate n 0] [] := fun x hx => by cases hx
  have wk3 := Lib.hid wk3'
  clear bk3' wk3'
  have hlt3 : Hid (∀ x ∈ [(w2.heap.size + 1, (#[.int .u8 kk, .int .i64 (n : Int), .int .i64 0, .int .u8 0, .int .i64 0] : Array Value), 49), (w2.heap.size, #[.int .u8 1, .int .u8 1, .int .u16 (bo : Int), .int .u16 (st : Int), .int .i64 2, .string ⟨#[]⟩, .int .i64 0, .int .u8 0, .int .u8 0, .slice none 0 0, .slice none 0 0], 46), (w.heap.size + 1, #[va, vb, vc], 65), (w.heap.size, #[.int .u8 h, .int .u16 (born : Int), .int .u16 (stay : Int)], 24)], x.1 < w2.heap.size + 1 + 1) := fun x hx => by
    simp at hx
    rcases hx with rfl | rfl | rfl | rfl
    all_goals (show _ < w2.heap.size + 1 + 1; omega)
  clear hb hbk
  obtain ⟨P, hP⟩ : ∃ P, Hid (P = rowE n la) := ⟨_, rfl⟩
  obtain ⟨Q, hQ⟩ : ∃ Q, Hid (Q = rowE n lb) := ⟨_, rfl⟩
  obtain ⟨T, hT⟩ : ∃ T, Hid (T = rowE n lc) := ⟨_, rfl⟩
  have Plen := Lib.hid (show P.length = n by rw [hP.out]; exact rowE_len _ _)
  have Qlen := Lib.hid (show Q.length = n by rw [hQ.out]; exact rowE_len _ _)
  have Tlen := Lib.hid (show T.length = n by rw [hT.out]; exact rowE_len _ _)
  have Plt := Lib.hid (show ∀ j, P.getD j 0 < 2 by rw [hP.out]; exact rowE_lt _ _)
  have Qlt := Lib.hid (show ∀ j, Q.getD j 0 < 2 by rw [hQ.out]; exact rowE_lt _ _)
  have Tlt := Lib.hid (show ∀ j, T.getD j 0 < 2 by rw [hT.out]; exact rowE_lt _ _)
  have t1 : w3.cell? ⟨w2.heap.size + 1, 1, none⟩ = some (.int .i64 (n : Int)) := E3.out.cell (cs := #[.int .u8 kk, .int .i64 (n : Int), .int .i64 0, .int .u8 0, .int .i64 0]) (T := 49) (by simp) rfl
  have x0 : w3.cell? ⟨w.heap.size + 1, 0, none⟩ = some va := E3.out.cell (cs := #[va, vb, vc]) (T := 65) (by simp) rfl
  have KR := Lib.hid (K4.out w3 _ _ (ha'.out.keptB hB3.out (Nat.le_refl _)))
  go_wp2_with fail
  refine (KR.out).mono ?_
  rintro e w4 ⟨g1, rfl, hgg1, hY, hb⟩
  have hz4 : w3.heap.size ≤ w4.heap.size := hb.size
  have E4 := Lib.hid (E3.out.kept hb)
  have hB4 := Lib.hid (below_then hB3.out hb hB3.out.size)
  have bk4 := Lib.hid (bk3.out.kept hb)
  have yp4 := Lib.hid hY
  clear hb hY hgg1 t1 x0 KR
  have yp4 : Hid (YBlk w4 g1 P) := by rw [hP.out]; exact yp4.out
  have t1 : w4.cell? ⟨w2.heap.size + 1, 1, none⟩ = some (.int .i64 (n : Int)) := E4.out.cell (cs := #[.int .u8 kk, .int .i64 (n : Int), .int .i64 0, .int .u8 0, .int .i64 0]) (T := 49) (by simp) rfl
  have x1 : w4.cell? ⟨w.heap.size + 1, 1, none⟩ = some vb := E4.out.cell (cs := #[va, vb, vc]) (T := 65) (by simp) rfl
  have KR := Lib.hid (K4.out w4 _ _ (hb'.out.keptB hB4.out (Nat.le_refl _)))
  go_wp2_with fail
  refine (KR.out).mono ?_
  rintro e w5 ⟨g2, rfl, hgg2, hY, hb⟩
  have hz5 : w4.heap.size ≤ w5.heap.size := hb.size
  have E5 := Lib.hid (E4.out.kept hb)
  have hB5 := Lib.hid (below_then hB4.out hb hB4.out.size)
  have bk5 := Lib.hid (bk4.out.kept hb)
  have yp5 := Lib.hid (yp4.out.kept hb)
  have yq5 := Lib.hid hY
  clear hb hY hgg2 t1 x1 KR
  have yq5 : Hid (YBlk w5 g2 Q) := by rw [hQ.out]; exact yq5.out
  have t1 : w5.cell? ⟨w2.heap.size + 1, 1, none⟩ = some (.int .i64 (n : Int)) := E5.out.cell (cs := #[.int .u8 kk, .int .i64 (n : Int), .int .i64 0, .int .u8 0, .int .i64 0]) (T := 49) (by simp) rfl
  have x2 : w5.cell? ⟨w.heap.size + 1, 2, none⟩ = some vc := E5.out.cell (cs := #[va, vb, vc]) (T := 65) (by simp) rfl
  have KR := Lib.hid (K4.out w5 _ _ (hc'.out.keptB hB5.out (Nat.le_refl _)))
  go_wp2_with fail
  refine (KR.out).mono ?_
  rintro e w6 ⟨g3, rfl, hgg3, hY, hb⟩
  have hz6 : w5.heap.size ≤ w6.heap.size := hb.size
  have E6 := Lib.hid (E5.out.kept hb)
  have hB6 := Lib.hid (below_then hB5.out hb hB5.out.size)
  have bk6 := Lib.hid (bk5.out.kept hb)
  have yp6 := Lib.hid (yp5.out.kept hb)
  have yq6 := Lib.hid (yq5.out.kept hb)
  have ys6 := Lib.hid hY
  clear hb hY hgg3 t1 x2 KR
  have ys6 : Hid (YBlk w6 g3 T) := by rw [hT.out]; exact ys6.out
  have wk6 := wk3
  have bk6 := bk6
  obtain ⟨R1, i1, hc, hw, KR⟩ := rowStep bk6.out wk6.out ⟨n1, by show n ≤ 65536; omega⟩ (r := P) (.inl (by show 1 < 100; omega)) (Plen.out) (Plt.out) (v := .slice (some ⟨g1, 0, none⟩) n n) (has_of yp6.out Plen.out)
  have cR1 : Hid (Came 100 [List.replicate n 0] P R1 i1) := hc
  have wk7 := Lib.hid hw
  clear hc hw
  go_wp2_with fail
  refine (KR.out).mono ?_
  rintro e w7 ⟨rfl, hbk, hy⟩
  have hz7 : w6.heap.size ≤ w7.heap.size := hy.1.size
  have E7 := Lib.hid (E6.out.yf hlt3.out hy)
  have hB7 := Lib.hid (hB6.out.trans (hy.1.mono hB3le.out))
  have bk7 := Lib.hid hbk
  have yp7 := Lib.hid (hy.y yp6.out)
  have yq7 := Lib.hid (hy.y yq6.out)
  have ys7 := Lib.hid (hy.y ys6.out)
  clear hbk hy KR
  have b1 : Hid (R1.length ≤ 2) := by have := cR1.out.le1; show R1.length ≤ 2; simpa using this
  obtain ⟨R2, i2, hc, hw, KR⟩ := rowStep bk7.out wk7.out ⟨n1, by show n ≤ 65536; omega⟩ (r := Q) (.inl (by show R1.length < 100; have := b1.out; omega)) (Qlen.out) (Qlt.out) (v := .slice (some ⟨g2, 0, none⟩) n n) (has_of yq7.out Qlen.out)
  have cR2 : Hid (Came 100 R1 Q R2 i2) := hc
  have wk8 := Lib.hid hw
  clear hc hw
  go_wp2_with fail
  refine (KR.out).mono ?_
  rintro e w8 ⟨rfl, hbk, hy⟩
  have hz8 : w7.heap.size ≤ w8.heap.size := hy.1.size
  have E8 := Lib.hid (E7.out.yf hlt3.out hy)
  have hB8 := Lib.hid (hB7.out.trans (hy.1.mono hB3le.out))
  have bk8 := Lib.hid hbk
  have yp8 := Lib.hid (hy.y yp7.out)
  have yq8 := Lib.hid (hy.y yq7.out)
  have ys8 := Lib.hid (hy.y ys7.out)
  clear hbk hy KR
  have b2 : Hid (R2.length ≤ 3) := by have h1 := cR2.out.le1; have h2 := b1.out; show R2.length ≤ 3; omega
  obtain ⟨R3, i3, hc, hw, KR⟩ := rowStep bk8.out wk8.out ⟨n1, by show n ≤ 65536; omega⟩ (r := T) (.inl (by show R2.length < 100; have := b2.out; omega)) (Tlen.out) (Tlt.out) (v := .slice (some ⟨g3, 0, none⟩) n n) (has_of ys8.out Tlen.out)
  have cR3 : Hid (Came 100 R2 T R3 i3) := hc
  have wk9 := Lib.hid hw
  clear hc hw
  go_wp2_with fail
  refine (KR.out).mono ?_
  rintro e w9 ⟨rfl, hbk, hy⟩
  have hz9 : w8.heap.size ≤ w9.heap.size := hy.1.size
  have E9 := Lib.hid (E8.out.yf hlt3.out hy)
  have hB9 := Lib.hid (hB8.out.trans (hy.1.mono hB3le.out))
  have bk9 := Lib.hid hbk
  have yp9 := Lib.hid (hy.y yp8.out)
  have yq9 := Lib.hid (hy.y yq8.out)
  have ys9 := Lib.hid (hy.y ys8.out)
  clear hbk hy KR
  have b3 : Hid (R3.length ≤ 4) := by have h1 := cR3.out.le1; have h2 := b2.out; show R3.length ≤ 4; omega
  have j1 : Hid (i1 < R3.length) := Nat.lt_of_lt_of_le cR1.out.lt (Nat.le_trans cR2.out.le cR3.out.le)
  have j2 : Hid (i2 < R3.length) := Nat.lt_of_lt_of_le cR2.out.lt cR3.out.le
  have j3 : Hid (i3 < R3.length) := cR3.out.lt
  have q1 : Hid (R3.getD i1 [] = P) := (cR3.out.old _ (Nat.lt_of_lt_of_le cR1.out.lt cR2.out.le)).trans ((cR2.out.old _ cR1.out.lt).trans cR1.out.get)
  have q2 : Hid (R3.getD i2 [] = Q) := (cR3.out.old _ cR2.out.lt).trans cR2.out.get
  have q3 : Hid (R3.getD i3 [] = T) := cR3.out.get
  have q0 : Hid (R3.getD 0 [] = List.replicate n 0) := (cR3.out.old _ (Nat.lt_of_lt_of_le (Nat.zero_lt_of_lt cR1.out.lt) cR2.out.le)).trans ((cR2.out.old _ (Nat.zero_lt_of_lt cR1.out.lt)).trans (cR1.out.old 0 (by simp)))
  obtain ⟨R4, i4, hc, KR⟩ := nextStep S.out bk9.out wk9.out (a := i1) (b := i2) (c := i3) (j1.out) (j2.out) (j3.out) ⟨n1, by show n ≤ 65536; omega⟩ (.inl (by show R3.length < 100; have := b3.out; omega))
  have cR4 : Hid (Came 100 R3 (nextRow ⟨1, bo, st, kk, n, 100⟩ R3 i1 i2 i3) R4 i4) := hc
  clear hc
  go_wp2_with fail
  refine (KR.out).mono ?_
  rintro e w10 ⟨rfl, ⟨wk, hbk, hw⟩, hy⟩
  have hz10 : w9.heap.size ≤ w10.heap.size := hy.1.size
  have wk10 := Lib.hid hw
  have E10 := Lib.hid (E9.out.yf hlt3.out hy)
  have hB10 := Lib.hid (hB9.out.trans (hy.1.mono hB3le.out))
  have bk10 := Lib.hid hbk
  have yp10 := Lib.hid (hy.y yp9.out)
  have yq10 := Lib.hid (hy.y yq9.out)
  have ys10 := Lib.hid (hy.y ys9.out)
  clear hbk hy KR hw
  have hN : Hid (nextRow ⟨1, bo, st, kk, n, 100⟩ R4 i1 i2 i3 = nextRow ⟨1, bo, st, kk, n, 100⟩ R3 i1 i2 i3) := by
    have : sel3 R4 i1 i2 i3 = sel3 R3 i1 i2 i3 := by rw [cR4.out.eR]; exact sel3_after j1.out j2.out j3.out
    show nextRow _ _ _ _ _ = _
    unfold nextRow
    rw [this]
  have hmem : Hid (nextRow ⟨1, bo, st, kk, n, 100⟩ R4 i1 i2 i3 ∈ R4) := by
    have h1 := cR4.out.get
    have h2 := cR4.out.lt
    show _ ∈ R4
    rw [hN.out, ← h1]
    simp [h2]
  obtain ⟨R5, i5, hc, KR⟩ := nextStep S.out bk10.out wk10.out (a := i1) (b := i2) (c := i3) (Nat.lt_of_lt_of_le j1.out cR4.out.le) (Nat.lt_of_lt_of_le j2.out cR4.out.le) (Nat.lt_of_lt_of_le j3.out cR4.out.le) ⟨n1, by show n ≤ 65536; omega⟩ (.inr hmem.out)
  have cR5 : Hid (Came 100 R4 (nextRow ⟨1, bo, st, kk, n, 100⟩ R4 i1 i2 i3) R5 i5) := hc
  clear hc
  go_wp2_with fail
  refine (KR.out).mono ?_
  rintro e w11 ⟨rfl, ⟨wk, hbk, hw⟩, hy⟩
  have hz11 : w10.heap.size ≤ w11.heap.size := hy.1.size
  have wk11 := Lib.hid hw
  have E11 := Lib.hid (E10.out.yf hlt3.out hy)
  have hB11 := Lib.hid (hB10.out.trans (hy.1.mono hB3le.out))
  have bk11 := Lib.hid hbk
  have yp11 := Lib.hid (hy.y yp10.out)
  have yq11 := Lib.hid (hy.y yq10.out)
  have ys11 := Lib.hid (hy.y ys10.out)
  clear hbk hy KR hw
  have hRR : R5 = R4 := by rw [cR5.out.eR]; exact after_mem 100 hmem.out
  have hii : i5 = i4 := by
    have h1 : i5 = R4.idxOf _ := cR5.out.ei.trans (idOf_mem 100 hmem.out)
    rw [h1, hN.out]
    have h2 : i4 = (after R3 100 _).idxOf _ := cR4.out.ei.trans (idOf_after (errOf_lt _ (by have := b3.out; omega)))
    rw [h2, ← cR4.out.eR]
  subst hRR
  subst hii
  have KR : Hid (Calls Try.prog 24 #[.pointer (some ⟨bk, 0, none⟩), .int .i64 (i5 : Int)] w11 fun e w' => ∃ g, e = .returned (.tuple #[.slice (some ⟨g, 0, none⟩) n n, .int .i64 0]) ∧ w11.heap.size ≤ g ∧ YBlk w' g (R5.getD i5 []) ∧ Below w11.heap.size w11 w') := by
    obtain ⟨kv, ks, hat⟩ := bk11.out
    exact cells24 hat (by show n ≤ 65536; omega) (id := i5) (cR5.out.lt)
  go_wp2_with fail
  refine (KR.out).mono ?_
  rintro e w12 ⟨g4, rfl, hgg4, hY, hb⟩
  have hz12 : w11.heap.size ≤ w12.heap.size := hb.size
  have E12 := Lib.hid (E11.out.kept hb)
  have hB12 := Lib.hid (below_then hB11.out hb hB11.out.size)
  have bk12 := Lib.hid (bk11.out.kept hb)
  have yp12 := Lib.hid (yp11.out.kept hb)
  have yq12 := Lib.hid (yq11.out.kept hb)
  have ys12 := Lib.hid (ys11.out.kept hb)
  have yu12 := Lib.hid hY
  clear hb hY hgg4 KR
  have yu : Hid (YBlk w12 g4 (nextRow ⟨1, bo, st, kk, n, 100⟩ R3 i1 i2 i3)) := by rw [← cR4.out.get]; exact yu12.out
  clear yu12
  have t0 : w12.cell? ⟨w2.heap.size + 1, 0, none⟩ = some (.int .u8 kk) := E12.out.cell (cs := #[.int .u8 kk, .int .i64 (n : Int), .int .i64 0, .int .u8 0, .int .i64 0]) (T := 49) (by simp) rfl
  have t1 : w12.cell? ⟨w2.heap.size + 1, 1, none⟩ = some (.int .i64 (n : Int)) := E12.out.cell (cs := #[.int .u8 kk, .int .i64 (n : Int), .int .i64 0, .int .u8 0, .int .i64 0]) (T := 49) (by simp) rfl
  have t2 : w12.cell? ⟨w2.heap.size + 1, 2, none⟩ = some (.int .i64 0) := E12.out.cell (cs := #[.int .u8 kk, .int .i64 (n : Int), .int .i64 0, .int .u8 0, .int .i64 0]) (T := 49) (by simp) rfl
  have t3 : w12.cell? ⟨w2.heap.size + 1, 3, none⟩ = some (.int .u8 0) := E12.out.cell (cs := #[.int .u8 kk, .int .i64 (n : Int), .int .i64 0, .int .u8 0, .int .i64 0]) (T := 49) (by simp) rfl
  have t4 : w12.cell? ⟨w2.heap.size + 1, 4, none⟩ = some (.int .i64 0) := E12.out.cell (cs := #[.int .u8 kk, .int .i64 (n : Int), .int .i64 0, .int .u8 0, .int .i64 0]) (T := 49) (by simp) rfl
  have r0 : w12.cell? ⟨w2.heap.size, 0, none⟩ = some (.int .u8 1) := E12.out.cell (cs := #[.int .u8 1, .int .u8 1, .int .u16 (bo : Int), .int .u16 (st : Int), .int .i64 2, .string ⟨#[]⟩, .int .i64 0, .int .u8 0, .int .u8 0, .slice none 0 0, .slice none 0 0]) (T := 46) (by simp) rfl
  have r1 : w12.cell? ⟨w2.heap.size, 1, none⟩ = some (.int .u8 1) := E12.out.cell (cs := #[.int .u8 1, .int .u8 1, .int .u16 (bo : Int), .int .u16 (st : Int), .int .i64 2, .string ⟨#[]⟩, .int .i64 0, .int .u8 0, .int .u8 0, .slice none 0 0, .slice none 0 0]) (T := 46) (by simp) rfl
  have r2 : w12.cell? ⟨w2.heap.size, 2, none⟩ = some (.int .u16 (bo : Int)) := E12.out.cell (cs := #[.int .u8 1, .int .u8 1, .int .u16 (bo : Int), .int .u16 (st : Int), .int .i64 2, .string ⟨#[]⟩, .int .i64 0, .int .u8 0, .int .u8 0, .slice none 0 0, .slice none 0 0]) (T := 46) (by simp) rfl
  have r3 : w12.cell? ⟨w2.heap.size, 3, none⟩ = some (.int .u16 (st : Int)) := E12.out.cell (cs := #[.int .u8 1, .int .u8 1, .int .u16 (bo : Int), .int .u16 (st : Int), .int .i64 2, .string ⟨#[]⟩, .int .i64 0, .int .u8 0, .int .u8 0, .slice none 0 0, .slice none 0 0]) (T := 46) (by simp) rfl
  have r4 : w12.cell? ⟨w2.heap.size, 4, none⟩ = some (.int .i64 2) := E12.out.cell (cs := #[.int .u8 1, .int .u8 1, .int .u16 (bo : Int), .int .u16 (st : Int), .int .i64 2, .string ⟨#[]⟩, .int .i64 0, .int .u8 0, .int .u8 0, .slice none 0 0, .slice none 0 0]) (T := 46) (by simp) rfl
  have r5 : w12.cell? ⟨w2.heap.size, 5, none⟩ = some (.string ⟨#[]⟩) := E12.out.cell (cs := #[.int .u8 1, .int .u8 1, .int .u16 (bo : Int), .int .u16 (st : Int), .int .i64 2, .string ⟨#[]⟩, .int .i64 0, .int .u8 0, .int .u8 0, .slice none 0 0, .slice none 0 0]) (T := 46) (by simp) rfl
  have r6 : w12.cell? ⟨w2.heap.size, 6, none⟩ = some (.int .i64 0) := E12.out.cell (cs := #[.int .u8 1, .int .u8 1, .int .u16 (bo : Int), .int .u16 (st : Int), .int .i64 2, .string ⟨#[]⟩, .int .i64 0, .int .u8 0, .int .u8 0, .slice none 0 0, .slice none 0 0]) (T := 46) (by simp) rfl
  have r7 : w12.cell? ⟨w2.heap.size, 7, none⟩ = some (.int .u8 0) := E12.out.cell (cs := #[.int .u8 1, .int .u8 1, .int .u16 (bo : Int), .int .u16 (st : Int), .int .i64 2, .string ⟨#[]⟩, .int .i64 0, .int .u8 0, .int .u8 0, .slice none 0 0, .slice none 0 0]) (T := 46) (by simp) rfl
  have r8 : w12.cell? ⟨w2.heap.size, 8, none⟩ = some (.int .u8 0) := E12.out.cell (cs := #[.int .u8 1, .int .u8 1, .int .u16 (bo : Int), .int .u16 (st : Int), .int .i64 2, .string ⟨#[]⟩, .int .i64 0, .int .u8 0, .int .u8 0, .slice none 0 0, .slice none 0 0]) (T := 46) (by simp) rfl
  have r9 : w12.cell? ⟨w2.heap.size, 9, none⟩ = some (.slice none 0 0) := E12.out.cell (cs := #[.int .u8 1, .int .u8 1, .int .u16 (bo : Int), .int .u16 (st : Int), .int .i64 2, .string ⟨#[]⟩, .int .i64 0, .int .u8 0, .int .u8 0, .slice none 0 0, .slice none 0 0]) (T := 46) (by simp) rfl
  have r10 : w12.cell? ⟨w2.heap.size, 10, none⟩ = some (.slice none 0 0) := E12.out.cell (cs := #[.int .u8 1, .int .u8 1, .int .u16 (bo : Int), .int .u16 (st : Int), .int .i64 2, .string ⟨#[]⟩, .int .i64 0, .int .u8 0, .int .u8 0, .slice none 0 0, .slice none 0 0]) (T := 46) (by simp) rfl
  have KR := Lib.hid (line27 (w := w12) (R := sel3 R3 i1 i2 i3) (fun i => if i = 0 then some ⟨g1, 0, none⟩ else if i = 1 then some ⟨g2, 0, none⟩ else some ⟨g3, 0, none⟩) (fun _ => n) S.out (fun i hi => by
      match i, hi with
      | 0, _ => exact (show sel3 R3 i1 i2 i3 0 = P from q1.out) ▸ has_of yp12.out Plen.out
      | 1, _ => exact (show sel3 R3 i1 i2 i3 1 = Q from q2.out) ▸ has_of yq12.out Qlen.out
      | 2, _ => exact (show sel3 R3 i1 i2 i3 2 = T from q3.out) ▸ has_of ys12.out Tlen.out) (fun i hi => by
      match i, hi with
      | 0, _ => exact (show sel3 R3 i1 i2 i3 0 = P from q1.out) ▸ Plen.out
      | 1, _ => exact (show sel3 R3 i1 i2 i3 1 = Q from q2.out) ▸ Qlen.out
      | 2, _ => exact (show sel3 R3 i1 i2 i3 2 = T from q3.out) ▸ Tlen.out) (fun i j hi => by
      match i, hi with
      | 0, _ => exact (show sel3 R3 i1 i2 i3 0 = P from q1.out) ▸ Plt.out j
      | 1, _ => exact (show sel3 R3 i1 i2 i3 1 = Q from q2.out) ▸ Qlt.out j
      | 2, _ => exact (show sel3 R3 i1 i2 i3 2 = T from q3.out) ▸ Tlt.out j))
  go_wp2_with fail
  refine (KR.out).mono ?_
  rintro e w13 ⟨g5, rfl, hg5, hY, hb⟩
  have yu13 := Lib.hid (yu.out.kept hb)
  have yl13 : Hid (YBlk w13 g5 (nextRow ⟨1, bo, st, kk, n, 100⟩ R3 i1 i2 i3)) := hY
  have E13 := Lib.hid (E12.out.kept hb)
  have hB13 := Lib.hid (below_then hB12.out hb hB12.out.size)
  have bk13 := Lib.hid (bk12.out.kept hb)
  have yp13 := Lib.hid (yp12.out.kept hb)
  have yq13 := Lib.hid (yq12.out.kept hb)
  have ys13 := Lib.hid (ys12.out.kept hb)
  clear hb hY hg5 KR t0 t1 t2 t3 t4 r0 r1 r2 r3 r4 r5 r6 r7 r8 r9 r10
  have q5 : Hid (R5.getD 0 [] = List.replicate n 0) := (cR4.out.old 0 (Nat.zero_lt_of_lt j1.out)).trans q0.out
  have hz0 : Hid (nextRow ⟨1, bo, st, kk, n, 100⟩ R5 0 0 0 = List.replicate n 0) := by
    refine winL_zero S.out _ (fun i hi => ?_)
    unfold sel3
    have := q5.out
    match i, hi with
    | 0, _ | 1, _ | 2, _ => simpa using this
  have hl0 : Hid (0 < R5.length) := Nat.zero_lt_of_lt cR4.out.lt
  have hm0 : Hid (nextRow ⟨1, bo, st, kk, n, 100⟩ R5 0 0 0 ∈ R5) := by
    show _ ∈ R5
    rw [hz0.out, ← q5.out]
    have := hl0.out
    simp [this]
  have wk13 := wk11
  obtain ⟨R6, i6, hc, KR⟩ := nextStep S.out bk13.out wk13.out (a := 0) (b := 0) (c := 0) (hl0.out) (hl0.out) (hl0.out) ⟨n1, by show n ≤ 65536; omega⟩ (.inr hm0.out)
  have cR6 : Hid (Came 100 R5 (nextRow ⟨1, bo, st, kk, n, 100⟩ R5 0 0 0) R6 i6) := hc
  clear hc
  go_wp2_with fail
  refine (KR.out).mono ?_
  rintro e w14 ⟨rfl, ⟨wk, hbk, hw⟩, hy⟩
  have hz14 : w13.heap.size ≤ w14.heap.size := hy.1.size
  have wk14 := Lib.hid hw
  have E14 := Lib.hid (E13.out.yf hlt3.out hy)
  have hB14 := Lib.hid (hB13.out.trans (hy.1.mono hB3le.out))
  have bk14 := Lib.hid hbk
  have yp14 := Lib.hid (hy.y yp13.out)
  have yq14 := Lib.hid (hy.y yq13.out)
  have ys14 := Lib.hid (hy.y ys13.out)
  have yu14 := Lib.hid (hy.y yu13.out)
  have yl14 := Lib.hid (hy.y yl13.out)
  clear hbk hy KR hw
  have hi6 : i6 = 0 := by
    have h1 : i6 = R5.idxOf _ := cR6.out.ei.trans (idOf_mem 100 hm0.out)
    rw [h1, hz0.out]
    exact idx_zero hl0.out q5.out
  subst hi6
  obtain ⟨N, hNN⟩ : ∃ N, Hid (N = nextRow ⟨1, bo, st, kk, n, 100⟩ R3 i1 i2 i3) := ⟨_, rfl⟩
  have Nlen := Lib.hid (show N.length = n by rw [hNN.out]; exact winL_len _ _ _ _ _ _)
  have Nlt := Lib.hid (show ∀ j, N.getD j 0 < 2 by rw [hNN.out]; exact winL_lt _ _ _ _ _ _)
  rw [← hNN.out] at yu14 yl14
  have hcv1 : Hid (∀ W, Below w14.heap.size w14 W → (convert 53 9 (.slice (some ⟨g4, 0, none⟩) n n)).run Try.prog W = .ok (strv N) W) := fun W hb => conv_str (has_of (yu14.out.kept hb) Nlen.out) (mem256 Nlt.out) (by have := Nlen.out; omega)
  have hcv2 : Hid (∀ W, Below w14.heap.size w14 W → (convert 53 9 (.slice (some ⟨g5, 0, none⟩) n n)).run Try.prog W = .ok (strv N) W) := fun W hb => conv_str (has_of (yl14.out.kept hb) Nlen.out) (mem256 Nlt.out) (by have := Nlen.out; omega)
  have hcw1 := Lib.hid (hcv1.out _ (Below.refl _ _))
  have hcw2 := Lib.hid (hcv2.out _ (Below.refl _ _))
  go_wp2_with (first | rw [hcw1.out] | rw [hcw2.out] | fail)
  simp only [strv_guard, strv_eq, Result.andThen]
  go_wp2_with fail
  go_ret
  exact ⟨rfl, hB14.out⟩
end Go.Proofs.Ytigghbehnnghnaa
