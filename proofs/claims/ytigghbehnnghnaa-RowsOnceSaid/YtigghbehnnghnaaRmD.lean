import Derived.Test.YtigghbehnnghnaaRmC
namespace Go.Proofs.Ytigghbehnnghnaa
open Go.RowKit Go.RowBits Go.MapRaw Go.Maps
set_option linter.unusedSimpArgs false
set_option linter.unusedVariables false

/-! ### RowsOnce -/
set_option maxRecDepth 20000 in
set_option maxHeartbeats 8000000 in
theorem rowsOnce_walk {h : Int} {born stay : Nat} (hb : born < 65536) (hs : stay < 65536) (torus : Bool) (width : Int) {va vb vc : Value} {la lb lc : List Nat} (w : World) (ha : HasY w va la) (hbb : HasY w vb lb) (hcc : HasY w vc lc) :
    Calls Try.prog 6 #[.agg #[.int .u8 h, .int .u16 (born : Int), .int .u16 (stay : Int)], .bool torus, .int .i64 width, lists3 va vb vc] w fun e w' => e = .returned (.bool true) ∧ Below w.heap.size w w' := by
  have K1 := Lib.hid alive17
  have K2 := Lib.hid (fun W => strip25 (h := h) hb hs torus width W)
  have hw20 := wideOf_eq width
  have S0 := strip_of born stay torus width
  generalize wideOf width = n at *
  generalize born &&& 510 = bo at *
  generalize stay &&& 511 = st at *
  generalize kindOf torus = kk at *
  have S := Lib.hid S0
  have K3 := Lib.hid (fun W => new18 (W := W) (most := 3) S0 (by omega))
  have K4 := Lib.hid (fun W (v : Value) (l : List Nat) (hv : HasY W v l) => row26 (n := n) (by omega) hv)
  have ha' := Lib.hid ha
  have hb' := Lib.hid hbb
  have hc' := Lib.hid hcc
  have n1 : 1 ≤ n := by omega
  have n2 : n ≤ 20 := by omega
  clear S0 ha hbb hcc hw20 hb hs
  go_enter Try.func6, Try.ntmps6
  go_wp2_with fail
  refine (K1.out _).mono ?_
  rintro e w1 ⟨rfl, hb⟩
  have E1 := Lib.hid ((((Blks.nil w).alloc rfl #[.int .u8 h, .int .u16 (born : Int), .int .u16 (stay : Int)] 24).alloc (n := w.heap.size + 1) (by simp) #[va, vb, vc] 65).kept hb)
  have hz1 : w.heap.size + 1 < w1.heap.size := by have := hb.size; simp at this; omega
  have hB1 := Lib.hid (below_then (B := w.heap.size) ((below_new _).alloc (by simp) _) hb (by simp; omega))
  have l0 : w1.cell? ⟨w.heap.size, 0, none⟩ = some (.int .u8 h) := E1.out.cell (cs := #[.int .u8 h, .int .u16 (born : Int), .int .u16 (stay : Int)]) (T := 24) (by simp) rfl
  have l1 : w1.cell? ⟨w.heap.size, 1, none⟩ = some (.int .u16 (born : Int)) := E1.out.cell (cs := #[.int .u8 h, .int .u16 (born : Int), .int .u16 (stay : Int)]) (T := 24) (by simp) rfl
  have l2 : w1.cell? ⟨w.heap.size, 2, none⟩ = some (.int .u16 (stay : Int)) := E1.out.cell (cs := #[.int .u8 h, .int .u16 (born : Int), .int .u16 (stay : Int)]) (T := 24) (by simp) rfl
  clear hb
  go_wp2_with fail
  refine (K2.out _).mono ?_
  rintro e w2 ⟨rfl, hb⟩
  have E2 := Lib.hid (E1.out.kept hb)
  have hz2 : w1.heap.size ≤ w2.heap.size := hb.size
  have hB2 := Lib.hid (below_then hB1.out hb hB1.out.size)
  clear hb l0 l1 l2
  go_wp2_with fail
  refine (K3.out _).mono ?_
  rintro e w3 ⟨bk, bn, bw, rfl, hbk, hb⟩
  have E3 := Lib.hid (((E2.out.alloc rfl #[.int .u8 1, .int .u8 1, .int .u16 (bo : Int), .int .u16 (st : Int), .int .i64 2, .string ⟨#[]⟩, .int .i64 0, .int .u8 0, .int .u8 0, .slice none 0 0, .slice none 0 0] 46).alloc (n := w2.heap.size + 1) (by simp) #[.int .u8 kk, .int .i64 (n : Int), .int .i64 0, .int .u8 0, .int .i64 0] 49).kept hb)
  have hz3 : w2.heap.size + 1 < w3.heap.size := by have := hb.size; simp at this; omega
  have hB3 := Lib.hid (below_then (B := w.heap.size) ((hB2.out.alloc hB2.out.size _).alloc (by have := hB2.out.size; simp; omega) _) hb (by have := hB2.out.size; simp; omega))
  have hs3 := hbk.size
  have hB3le : Hid (w.heap.size ≤ w2.heap.size + 1 + 1) := by have := hB2.out.size; show w.heap.size ≤ w2.heap.size + 1 + 1; omega
  have bk3' : Book ⟨1, bo, st, kk, n, 3⟩ (w2.heap.size + 1 + 1) w3 bk bn bw [List.replicate n 0] [] := by simpa using hbk
  have bk3 := Lib.hid bk3'
  have wk3' : WkOk ⟨1, bo, st, kk, n, 3⟩ [List.replicate n 0] [] := fun x hx => by cases hx
  have wk3 := Lib.hid wk3'
  clear bk3' wk3'
  have hlt3 : Hid (∀ x ∈ [(w2.heap.size + 1, (#[.int .u8 kk, .int .i64 (n : Int), .int .i64 0, .int .u8 0, .int .i64 0] : Array Value), 49), (w2.heap.size, #[.int .u8 1, .int .u8 1, .int .u16 (bo : Int), .int .u16 (st : Int), .int .i64 2, .string ⟨#[]⟩, .int .i64 0, .int .u8 0, .int .u8 0, .slice none 0 0, .slice none 0 0], 46), (w.heap.size + 1, #[va, vb, vc], 65), (w.heap.size, #[.int .u8 h, .int .u16 (born : Int), .int .u16 (stay : Int)], 24)], x.1 < w2.heap.size + 1 + 1) := fun x hx => by
    simp at hx
    rcases hx with rfl | rfl | rfl | rfl
    all_goals (show _ < w2.heap.size + 1 + 1; omega)
  clear hb hbk
  obtain ⟨P, hP⟩ : ∃ P, Hid (P = rowE n la) := ⟨_, rfl⟩
  obtain ⟨Q, hQ⟩ : ∃ Q, Hid (Q = rowE n lb) := ⟨_, rfl⟩
  obtain ⟨T, hT⟩ : ∃ T, Hid (T = rowE n lc) := ⟨_, rfl⟩
  have Plen := Lib.hid (show P.length = n by rw [hP.out]; exact rowE_len _ _)
  have Qlen := Lib.hid (show Q.length = n by rw [hQ.out]; exact rowE_len _ _)
  have Tlen := Lib.hid (show T.length = n by rw [hT.out]; exact rowE_len _ _)
  have Plt := Lib.hid (show ∀ j, P.getD j 0 < 2 by rw [hP.out]; exact rowE_lt _ _)
  have Qlt := Lib.hid (show ∀ j, Q.getD j 0 < 2 by rw [hQ.out]; exact rowE_lt _ _)
  have Tlt := Lib.hid (show ∀ j, T.getD j 0 < 2 by rw [hT.out]; exact rowE_lt _ _)
  have t1 : w3.cell? ⟨w2.heap.size + 1, 1, none⟩ = some (.int .i64 (n : Int)) := E3.out.cell (cs := #[.int .u8 kk, .int .i64 (n : Int), .int .i64 0, .int .u8 0, .int .i64 0]) (T := 49) (by simp) rfl
  have x0 : w3.cell? ⟨w.heap.size + 1, 0, none⟩ = some va := E3.out.cell (cs := #[va, vb, vc]) (T := 65) (by simp) rfl
  have KR := Lib.hid (K4.out w3 _ _ (ha'.out.keptB hB3.out (Nat.le_refl _)))
  go_wp2_with fail
  refine (KR.out).mono ?_
  rintro e w4 ⟨g1, rfl, hgg1, hY, hb⟩
  have hz4 : w3.heap.size ≤ w4.heap.size := hb.size
  have E4 := Lib.hid (E3.out.kept hb)
  have hB4 := Lib.hid (below_then hB3.out hb hB3.out.size)
  have bk4 := Lib.hid (bk3.out.kept hb)
  have yp4 := Lib.hid hY
  clear hb hY hgg1 t1 x0 KR
  have yp4 : Hid (YBlk w4 g1 P) := by rw [hP.out]; exact yp4.out
  have t1 : w4.cell? ⟨w2.heap.size + 1, 1, none⟩ = some (.int .i64 (n : Int)) := E4.out.cell (cs := #[.int .u8 kk, .int .i64 (n : Int), .int .i64 0, .int .u8 0, .int .i64 0]) (T := 49) (by simp) rfl
  have x1 : w4.cell? ⟨w.heap.size + 1, 1, none⟩ = some vb := E4.out.cell (cs := #[va, vb, vc]) (T := 65) (by simp) rfl
  have KR := Lib.hid (K4.out w4 _ _ (hb'.out.keptB hB4.out (Nat.le_refl _)))
  go_wp2_with fail
  refine (KR.out).mono ?_
  rintro e w5 ⟨g2, rfl, hgg2, hY, hb⟩
  have hz5 : w4.heap.size ≤ w5.heap.size := hb.size
  have E5 := Lib.hid (E4.out.kept hb)
  have hB5 := Lib.hid (below_then hB4.out hb hB4.out.size)
  have bk5 := Lib.hid (bk4.out.kept hb)
  have yp5 := Lib.hid (yp4.out.kept hb)
  have yq5 := Lib.hid hY
  clear hb hY hgg2 t1 x1 KR
  have yq5 : Hid (YBlk w5 g2 Q) := by rw [hQ.out]; exact yq5.out
  have wk5 := wk3
  obtain ⟨R1, i1, hc, hw, KR⟩ := rowStep bk5.out wk5.out ⟨n1, by show n ≤ 65536; omega⟩ (r := P) (.inl (by show 1 < 3; omega)) (Plen.out) (Plt.out) (v := .slice (some ⟨g1, 0, none⟩) n n) (has_of yp5.out Plen.out)
  have cR1 : Hid (Came 3 [List.replicate n 0] P R1 i1) := hc
  have wk6 := Lib.hid hw
  clear hc hw
  go_wp2_with fail
  refine (KR.out).mono ?_
  rintro e w6 ⟨rfl, hbk, hy⟩
  have hz6 : w5.heap.size ≤ w6.heap.size := hy.1.size
  have E6 := Lib.hid (E5.out.yf hlt3.out hy)
  have hB6 := Lib.hid (hB5.out.trans (hy.1.mono hB3le.out))
  have bk6 := Lib.hid hbk
  have yp6 := Lib.hid (hy.y yp5.out)
  have yq6 := Lib.hid (hy.y yq5.out)
  clear hbk hy KR
  have b1 : Hid (R1.length ≤ 2) := by have := cR1.out.le1; show R1.length ≤ 2; simpa using this
  obtain ⟨R2, i2, hc, hw, KR⟩ := rowStep bk6.out wk6.out ⟨n1, by show n ≤ 65536; omega⟩ (r := Q) (.inl (by show R1.length < 3; have := b1.out; omega)) (Qlen.out) (Qlt.out) (v := .slice (some ⟨g2, 0, none⟩) n n) (has_of yq6.out Qlen.out)
  have cR2 : Hid (Came 3 R1 Q R2 i2) := hc
  have wk7 := Lib.hid hw
  clear hc hw
  go_wp2_with fail
  refine (KR.out).mono ?_
  rintro e w7 ⟨rfl, hbk, hy⟩
  have hz7 : w6.heap.size ≤ w7.heap.size := hy.1.size
  have E7 := Lib.hid (E6.out.yf hlt3.out hy)
  have hB7 := Lib.hid (hB6.out.trans (hy.1.mono hB3le.out))
  have bk7 := Lib.hid hbk
  have yp7 := Lib.hid (hy.y yp6.out)
  have yq7 := Lib.hid (hy.y yq6.out)
  clear hbk hy KR
  have hmP : Hid (P ∈ R2) := by
    have h1 := cR1.out.get
    have h2 := cR1.out.lt
    show P ∈ R2
    rw [cR2.out.eR]
    refine mem_after_of ?_
    rw [← h1]
    simp [h2]
  have hmQ : Hid (Q ∈ R2) := by
    have h1 := cR2.out.get
    have h2 := cR2.out.lt
    show Q ∈ R2
    rw [← h1]
    simp [h2]
  obtain ⟨R3, i3, hc, hw, KR⟩ := rowStep bk7.out wk7.out ⟨n1, by show n ≤ 65536; omega⟩ (r := P) (.inr hmP.out) (Plen.out) (Plt.out) (v := .slice (some ⟨g1, 0, none⟩) n n) (has_of yp7.out Plen.out)
  have cR3 : Hid (Came 3 R2 P R3 i3) := hc
  have wk8 := Lib.hid hw
  clear hc hw
  go_wp2_with fail
  refine (KR.out).mono ?_
  rintro e w8 ⟨rfl, hbk, hy⟩
  have hz8 : w7.heap.size ≤ w8.heap.size := hy.1.size
  have E8 := Lib.hid (E7.out.yf hlt3.out hy)
  have hB8 := Lib.hid (hB7.out.trans (hy.1.mono hB3le.out))
  have bk8 := Lib.hid hbk
  have yp8 := Lib.hid (hy.y yp7.out)
  have yq8 := Lib.hid (hy.y yq7.out)
  clear hbk hy KR
  have hRR : R3 = R2 := by rw [cR3.out.eR]; exact after_mem 3 hmP.out
  have e1 : Hid (i1 = R2.idxOf P) := by
    have h1 : i1 = (after [List.replicate n 0] 3 P).idxOf P := cR1.out.ei.trans (idOf_after (errOf_lt _ (by simp)))
    show i1 = _
    rw [h1, ← cR1.out.eR, cR2.out.eR]
    have h3 : P ∈ R1 := by
      have h1 := cR1.out.get
      have h2 := cR1.out.lt
      rw [← h1]
      simp [h2]
    exact (idx_after h3).symm
  have e2 : Hid (i2 = R2.idxOf Q) := by
    have h1 : i2 = (after R1 3 Q).idxOf Q := cR2.out.ei.trans (idOf_after (errOf_lt _ (by have := b1.out; omega)))
    show i2 = _
    rw [h1, ← cR2.out.eR]
  have hii : i3 = i1 := by
    have h1 : i3 = R2.idxOf P := cR3.out.ei.trans (idOf_mem 3 hmP.out)
    rw [h1]
    exact e1.out.symm
  subst hRR
  subst hii
  have hcw1 : Hid ((convert 53 9 (.slice (some ⟨g1, 0, none⟩) n n)).run Try.prog w8 = .ok (strv P) w8) := conv_str (has_of yp8.out Plen.out) (mem256 Plt.out) (by have := Plen.out; omega)
  have hcw2 : Hid ((convert 53 9 (.slice (some ⟨g2, 0, none⟩) n n)).run Try.prog w8 = .ok (strv Q) w8) := conv_str (has_of yq8.out Qlen.out) (mem256 Qlt.out) (by have := Qlen.out; omega)
  have hcnt : Hid (∀ W, Below w8.heap.size w8 W → Calls Try.prog 23 #[.pointer (some ⟨bk, 0, none⟩)] W fun e w' => e = .returned (.int .i64 (R3.length : Int)) ∧ W = w') := fun W hb => by
    obtain ⟨kv, ks, hat⟩ := bk8.out.kept hb
    exact (count23 hat).mono fun e w' ⟨he, hw⟩ => ⟨he, hw.symm⟩
  have hQlt := Lib.hid (strv_ne (a := P) (b := Q) Plt.out Qlt.out)
  have hE : Hid (errOf R3 3 T = 0 ∨ (errOf R3 3 T = 4 ∧ 3 ≤ R3.length)) := errOf_or _ _ _
  have hle4 : Hid (idOf R3 3 T ≤ R3.length) := idOf_le _ _ _
  have hle5 : Hid ((after R3 3 T).length ≤ 3) := after_most T (by have h1 := cR2.out.le1; have h2 := b1.out; omega)
  have hge5 : Hid (R3.length ≤ (after R3 3 T).length) := after_len _ _ _
  have gP : Hid ((after R3 3 T).getD i3 [] = P) := (after_get _ _ _ (by rw [e1.out]; exact List.idxOf_lt_length_iff.2 hmP.out)).trans (by rw [e1.out]; exact get_idx hmP.out)
  have gQ : Hid ((after R3 3 T).getD i2 [] = Q) := (after_get _ _ _ cR2.out.lt).trans cR2.out.get
  have l3 : Hid (i3 < (after R3 3 T).length) := Nat.lt_of_lt_of_le (by rw [e1.out]; exact List.idxOf_lt_length_iff.2 hmP.out) (after_len _ _ _)
  have l2 : Hid (i2 < (after R3 3 T).length) := Nat.lt_of_lt_of_le cR2.out.lt (after_len _ _ _)
  have KX : Hid (∀ W (v : Value), Book ⟨1, bo, st, kk, n, 3⟩ (w2.heap.size + 1 + 1) W bk bn bw R3 [] → HasY W v T → Calls Try.prog 21 #[.pointer (some ⟨bk, 0, none⟩), v] W fun e w' => e = .returned (.tuple #[.int .i64 (idOf R3 3 T : Int), .int .i64 (errOf R3 3 T)]) ∧ Book ⟨1, bo, st, kk, n, 3⟩ (w2.heap.size + 1 + 1) w' bk bn bw (after R3 3 T) [] ∧ YF (w2.heap.size + 1 + 1) W w') := fun W v hk hv => row21 hk ⟨n1, by show n ≤ 65536; omega⟩ Tlen.out Tlt.out hv
  have hEI : Hid (i3 = i2 ↔ P = Q) := ⟨fun h => idx_inj hmP.out hmQ.out (by rw [← e1.out, ← e2.out, h]), fun h => by rw [e1.out, e2.out, h]⟩
  clear hQlt
  generalize after R3 3 T = R4 at *
  generalize idOf R3 3 T = i4 at *
  generalize errOf R3 3 T = er at *
  have hsne := Lib.hid (fun h W => strv_ne (a := P) (b := Q) Plt.out Qlt.out h W)
  by_cases hPQ : P = Q
  case' pos =>
    have hi : i3 = i2 := hEI.out.2 hPQ
    subst hPQ
    subst hi
    go_wp2_with (first | rw [hcw1.out] | rw [hcw2.out] | fail)
    simp only [strv_guard, strv_eq, Result.andThen]
  case' neg =>
    have hi : ¬ i3 = i2 := fun h => hPQ (hEI.out.1 h)
    have hs1 := Lib.hid (hsne.out hPQ)
    clear hPQ
    go_wp2_with (first | rw [hcw1.out] | rw [hcw2.out] | fail)
    simp only [strv_guard, hs1.out, Result.andThen]
  case' pos =>
    go_wp2_with fail
    refine (hcnt.out _ (Below.refl _ _)).mono ?_
    rintro e w' ⟨rfl, rfl⟩
    have t1 : w8.cell? ⟨w2.heap.size + 1, 1, none⟩ = some (.int .i64 (n : Int)) := E8.out.cell (cs := #[.int .u8 kk, .int .i64 (n : Int), .int .i64 0, .int .u8 0, .int .i64 0]) (T := 49) (by simp) rfl
    have x2 : w8.cell? ⟨w.heap.size + 1, 2, none⟩ = some vc := E8.out.cell (cs := #[va, vb, vc]) (T := 65) (by simp) rfl
    have KR := Lib.hid (K4.out w8 _ _ (hc'.out.keptB hB8.out (Nat.le_refl _)))
    go_wp2_with fail
    refine (KR.out).mono ?_
    rintro e w9 ⟨g3, rfl, hgg3, hY, hb⟩
    have hz9 : w8.heap.size ≤ w9.heap.size := hb.size
    have E9 := Lib.hid (E8.out.kept hb)
    have hB9 := Lib.hid (below_then hB8.out hb hB8.out.size)
    have bk9 := Lib.hid (bk8.out.kept hb)
    have yp9 := Lib.hid (yp8.out.kept hb)
    have yq9 := Lib.hid (yq8.out.kept hb)
    have ys9 := Lib.hid hY
    clear hb hY hgg3 t1 x2 KR
    have ys9 : Hid (YBlk w9 g3 T) := by rw [hT.out]; exact ys9.out
    have KR := Lib.hid (KX.out w9 (.slice (some ⟨g3, 0, none⟩) n n) bk9.out (has_of ys9.out Tlen.out))
    go_wp2_with fail
    refine (KR.out).mono ?_
    rintro e w10 ⟨rfl, hbk, hy⟩
    have hz10 : w9.heap.size ≤ w10.heap.size := hy.1.size
    have E10 := Lib.hid (E9.out.yf hlt3.out hy)
    have hB10 := Lib.hid (hB9.out.trans (hy.1.mono hB3le.out))
    have bk10 := Lib.hid hbk
    have yp10 := Lib.hid (hy.y yp9.out)
    have yq10 := Lib.hid (hy.y yq9.out)
    clear hbk hy KR
    have KR : Hid (Calls Try.prog 24 #[.pointer (some ⟨bk, 0, none⟩), .int .i64 (i3 : Int)] w10 fun e w' => ∃ g, e = .returned (.tuple #[.slice (some ⟨g, 0, none⟩) n n, .int .i64 0]) ∧ w10.heap.size ≤ g ∧ YBlk w' g (R4.getD i3 []) ∧ Below w10.heap.size w10 w') := by
      obtain ⟨kv, ks, hat⟩ := bk10.out
      exact cells24 hat (by show n ≤ 65536; omega) (id := i3) (l3.out)
    go_wp2_with fail
    refine (KR.out).mono ?_
    rintro e w11 ⟨g4, rfl, hgg4, hY, hb⟩
    have hz11 : w10.heap.size ≤ w11.heap.size := hb.size
    have E11 := Lib.hid (E10.out.kept hb)
    have hB11 := Lib.hid (below_then hB10.out hb hB10.out.size)
    have bk11 := Lib.hid (bk10.out.kept hb)
    have yp11 := Lib.hid (yp10.out.kept hb)
    have yq11 := Lib.hid (yq10.out.kept hb)
    have yu11 := Lib.hid hY
    clear hb hY hgg4 KR
    have yu11 : Hid (YBlk w11 g4 P) := by rw [← gP.out]; exact yu11.out
    have KR : Hid (Calls Try.prog 24 #[.pointer (some ⟨bk, 0, none⟩), .int .i64 (i3 : Int)] w11 fun e w' => ∃ g, e = .returned (.tuple #[.slice (some ⟨g, 0, none⟩) n n, .int .i64 0]) ∧ w11.heap.size ≤ g ∧ YBlk w' g (R4.getD i3 []) ∧ Below w11.heap.size w11 w') := by
      obtain ⟨kv, ks, hat⟩ := bk11.out
      exact cells24 hat (by show n ≤ 65536; omega) (id := i3) (l3.out)
    go_wp2_with fail
    refine (KR.out).mono ?_
    rintro e w12 ⟨g5, rfl, hgg5, hY, hb⟩
    have hz12 : w11.heap.size ≤ w12.heap.size := hb.size
    have E12 := Lib.hid (E11.out.kept hb)
    have hB12 := Lib.hid (below_then hB11.out hb hB11.out.size)
    have bk12 := Lib.hid (bk11.out.kept hb)
    have yp12 := Lib.hid (yp11.out.kept hb)
    have yq12 := Lib.hid (yq11.out.kept hb)
    have yu12 := Lib.hid (yu11.out.kept hb)
    have yv12 := Lib.hid hY
    clear hb hY hgg5 KR
    have yv12 : Hid (YBlk w12 g5 P) := by rw [← gQ.out]; exact yv12.out
    have hcnt2 : Hid (∀ W, Below w12.heap.size w12 W → Calls Try.prog 23 #[.pointer (some ⟨bk, 0, none⟩)] W fun e w' => e = .returned (.int .i64 (R4.length : Int)) ∧ W = w') := fun W hb => by
      obtain ⟨kv, ks, hat⟩ := bk12.out.kept hb
      exact (count23 hat).mono fun e w' ⟨he, hw⟩ => ⟨he, hw.symm⟩
    have hcw1 : Hid ((convert 53 9 (.slice (some ⟨g4, 0, none⟩) n n)).run Try.prog w12 = .ok (strv P) w12) := conv_str (has_of yu12.out Plen.out) (mem256 Plt.out) (by have := Plen.out; omega)
    have hcw2 : Hid ((convert 53 9 (.slice (some ⟨g1, 0, none⟩) n n)).run Try.prog w12 = .ok (strv P) w12) := conv_str (has_of yp12.out Plen.out) (mem256 Plt.out) (by have := Plen.out; omega)
    have hcw3 : Hid ((convert 53 9 (.slice (some ⟨g5, 0, none⟩) n n)).run Try.prog w12 = .ok (strv P) w12) := conv_str (has_of yv12.out Qlen.out) (mem256 Qlt.out) (by have := Qlen.out; omega)
    have hcw4 : Hid ((convert 53 9 (.slice (some ⟨g2, 0, none⟩) n n)).run Try.prog w12 = .ok (strv P) w12) := conv_str (has_of yq12.out Qlen.out) (mem256 Qlt.out) (by have := Qlen.out; omega)
    have hf1 : R4.length ≤ 3 := hle5.out
    have hf2 : i4 ≤ R3.length := hle4.out
    have hf3 : ¬ 3 < R4.length := by omega
    have hf4 : ¬ R3.length < i4 := by omega
    have hEE := hE.out
    rcases hEE with rfl | ⟨rfl, h3⟩
    all_goals
      try (have hf5 : ¬ R3.length < 3 := by omega)
      go_wp2_with fail
      refine (hcnt2.out _ (Below.refl _ _)).mono ?_
      rintro e w' ⟨rfl, rfl⟩
      go_wp2_with (first | rw [hcw1.out] | rw [hcw2.out] | rw [hcw3.out] | rw [hcw4.out] | fail)
      simp only [strv_guard, strv_eq, Result.andThen]
      go_wp2_with (first | rw [hcw3.out] | rw [hcw4.out] | fail)
      simp only [strv_guard, strv_eq, Result.andThen]
      go_wp2_with fail
      go_ret
      exact ⟨rfl, hB12.out⟩
  case' neg =>
    go_wp2_with fail
    refine (hcnt.out _ (Below.refl _ _)).mono ?_
    rintro e w' ⟨rfl, rfl⟩
    have t1 : w8.cell? ⟨w2.heap.size + 1, 1, none⟩ = some (.int .i64 (n : Int)) := E8.out.cell (cs := #[.int .u8 kk, .int .i64 (n : Int), .int .i64 0, .int .u8 0, .int .i64 0]) (T := 49) (by simp) rfl
    have x2 : w8.cell? ⟨w.heap.size + 1, 2, none⟩ = some vc := E8.out.cell (cs := #[va, vb, vc]) (T := 65) (by simp) rfl
    have KR := Lib.hid (K4.out w8 _ _ (hc'.out.keptB hB8.out (Nat.le_refl _)))
    go_wp2_with fail
    refine (KR.out).mono ?_
    rintro e w9 ⟨g3, rfl, hgg3, hY, hb⟩
    have hz9 : w8.heap.size ≤ w9.heap.size := hb.size
    have E9 := Lib.hid (E8.out.kept hb)
    have hB9 := Lib.hid (below_then hB8.out hb hB8.out.size)
    have bk9 := Lib.hid (bk8.out.kept hb)
    have yp9 := Lib.hid (yp8.out.kept hb)
    have yq9 := Lib.hid (yq8.out.kept hb)
    have ys9 := Lib.hid hY
    clear hb hY hgg3 t1 x2 KR
    have ys9 : Hid (YBlk w9 g3 T) := by rw [hT.out]; exact ys9.out
    have KR := Lib.hid (KX.out w9 (.slice (some ⟨g3, 0, none⟩) n n) bk9.out (has_of ys9.out Tlen.out))
    go_wp2_with fail
    refine (KR.out).mono ?_
    rintro e w10 ⟨rfl, hbk, hy⟩
    have hz10 : w9.heap.size ≤ w10.heap.size := hy.1.size
    have E10 := Lib.hid (E9.out.yf hlt3.out hy)
    have hB10 := Lib.hid (hB9.out.trans (hy.1.mono hB3le.out))
    have bk10 := Lib.hid hbk
    have yp10 := Lib.hid (hy.y yp9.out)
    have yq10 := Lib.hid (hy.y yq9.out)
    clear hbk hy KR
    have KR : Hid (Calls Try.prog 24 #[.pointer (some ⟨bk, 0, none⟩), .int .i64 (i3 : Int)] w10 fun e w' => ∃ g, e = .returned (.tuple #[.slice (some ⟨g, 0, none⟩) n n, .int .i64 0]) ∧ w10.heap.size ≤ g ∧ YBlk w' g (R4.getD i3 []) ∧ Below w10.heap.size w10 w') := by
      obtain ⟨kv, ks, hat⟩ := bk10.out
      exact cells24 hat (by show n ≤ 65536; omega) (id := i3) (l3.out)
    go_wp2_with fail
    refine (KR.out).mono ?_
    rintro e w11 ⟨g4, rfl, hgg4, hY, hb⟩
    have hz11 : w10.heap.size ≤ w11.heap.size := hb.size
    have E11 := Lib.hid (E10.out.kept hb)
    have hB11 := Lib.hid (below_then hB10.out hb hB10.out.size)
    have bk11 := Lib.hid (bk10.out.kept hb)
    have yp11 := Lib.hid (yp10.out.kept hb)
    have yq11 := Lib.hid (yq10.out.kept hb)
    have yu11 := Lib.hid hY
    clear hb hY hgg4 KR
    have yu11 : Hid (YBlk w11 g4 P) := by rw [← gP.out]; exact yu11.out
    have KR : Hid (Calls Try.prog 24 #[.pointer (some ⟨bk, 0, none⟩), .int .i64 (i2 : Int)] w11 fun e w' => ∃ g, e = .returned (.tuple #[.slice (some ⟨g, 0, none⟩) n n, .int .i64 0]) ∧ w11.heap.size ≤ g ∧ YBlk w' g (R4.getD i2 []) ∧ Below w11.heap.size w11 w') := by
      obtain ⟨kv, ks, hat⟩ := bk11.out
      exact cells24 hat (by show n ≤ 65536; omega) (id := i2) (l2.out)
    go_wp2_with fail
    refine (KR.out).mono ?_
    rintro e w12 ⟨g5, rfl, hgg5, hY, hb⟩
    have hz12 : w11.heap.size ≤ w12.heap.size := hb.size
    have E12 := Lib.hid (E11.out.kept hb)
    have hB12 := Lib.hid (below_then hB11.out hb hB11.out.size)
    have bk12 := Lib.hid (bk11.out.kept hb)
    have yp12 := Lib.hid (yp11.out.kept hb)
    have yq12 := Lib.hid (yq11.out.kept hb)
    have yu12 := Lib.hid (yu11.out.kept hb)
    have yv12 := Lib.hid hY
    clear hb hY hgg5 KR
    have yv12 : Hid (YBlk w12 g5 Q) := by rw [← gQ.out]; exact yv12.out
    have hcnt2 : Hid (∀ W, Below w12.heap.size w12 W → Calls Try.prog 23 #[.pointer (some ⟨bk, 0, none⟩)] W fun e w' => e = .returned (.int .i64 (R4.length : Int)) ∧ W = w') := fun W hb => by
      obtain ⟨kv, ks, hat⟩ := bk12.out.kept hb
      exact (count23 hat).mono fun e w' ⟨he, hw⟩ => ⟨he, hw.symm⟩
    have hcw1 : Hid ((convert 53 9 (.slice (some ⟨g4, 0, none⟩) n n)).run Try.prog w12 = .ok (strv P) w12) := conv_str (has_of yu12.out Plen.out) (mem256 Plt.out) (by have := Plen.out; omega)
    have hcw2 : Hid ((convert 53 9 (.slice (some ⟨g1, 0, none⟩) n n)).run Try.prog w12 = .ok (strv P) w12) := conv_str (has_of yp12.out Plen.out) (mem256 Plt.out) (by have := Plen.out; omega)
    have hcw3 : Hid ((convert 53 9 (.slice (some ⟨g5, 0, none⟩) n n)).run Try.prog w12 = .ok (strv Q) w12) := conv_str (has_of yv12.out Qlen.out) (mem256 Qlt.out) (by have := Qlen.out; omega)
    have hcw4 : Hid ((convert 53 9 (.slice (some ⟨g2, 0, none⟩) n n)).run Try.prog w12 = .ok (strv Q) w12) := conv_str (has_of yq12.out Qlen.out) (mem256 Qlt.out) (by have := Qlen.out; omega)
    have hf1 : R4.length ≤ 3 := hle5.out
    have hf2 : i4 ≤ R3.length := hle4.out
    have hf3 : ¬ 3 < R4.length := by omega
    have hf4 : ¬ R3.length < i4 := by omega
    have hEE := hE.out
    rcases hEE with rfl | ⟨rfl, h3⟩
    all_goals
      try (have hf5 : ¬ R3.length < 3 := by omega)
      go_wp2_with fail
      refine (hcnt2.out _ (Below.refl _ _)).mono ?_
      rintro e w' ⟨rfl, rfl⟩
      go_wp2_with (first | rw [hcw1.out] | rw [hcw2.out] | rw [hcw3.out] | rw [hcw4.out] | fail)
      simp only [strv_guard, strv_eq, Result.andThen]
      go_wp2_with (first | rw [hcw3.out] | rw [hcw4.out] | fail)
      simp only [strv_guard, strv_eq, Result.andThen]
      go_wp2_with fail
      go_ret
      exact ⟨rfl, hB12.out⟩
end Go.Proofs.Ytigghbehnnghnaa
