import Derived.Test.YtcbhbojplcddkaaGreatDoorZPkC
import Derived.Test.YtcbhbojplcddkaaGreatDoorZDrA
import Derived.Test.YtcbhbojplcddkaaGreatDoorZPkK
namespace Go.Proofs.YtcbhbojplcddkaaGreatDoor
open Go.RowKit Go.RowBits
set_option linter.unusedSimpArgs false
set_option linter.unusedVariables false

/-! ### ring.Check and ring.Around -/
abbrev frameV (w h g L : Nat) : Value := .agg #[.int .i64 (w : Int), .int .i64 (h : Int), .slice (some ⟨g, 0, none⟩) L L]
set_option maxRecDepth 20000 in
set_option maxHeartbeats 4000000 in
theorem check62 {w h g L : Nat} (hw : 1 ≤ w ∧ w ≤ 65536) (hh : 1 ≤ h ∧ h ≤ 65536) (hwh : w * h ≤ 1048576) (hL : L = (w + 2) * (h + 2)) (W : World) :
    Calls Tryz.prog 62 #[frameV w h g L] W fun e w' => e = .returned (.int .i64 0) ∧ Below W.heap.size W w' := by
  obtain ⟨p, hp⟩ : ∃ p, p = w * h := ⟨_, rfl⟩
  have hb : L ≤ 2000000 := by
    rw [hL, Nat.add_mul, Nat.mul_add]
    omega
  have e1 : ((w : Int) * (h : Int)) = (p : Int) := by rw [hp]; simp
  have e2 : (((w : Int) + 2) * ((h : Int) + 2)) = (L : Int) := by rw [hL]; simp
  have hp2 : (p : Int) ≤ 1048576 := by omega
  have hp0 : (0 : Int) ≤ (p : Int) := by omega
  have b1 : (1 : Int) ≤ (w : Int) := by omega
  have b2 : (w : Int) ≤ 65536 := by omega
  have b3 : (1 : Int) ≤ (h : Int) := by omega
  have b4 : (h : Int) ≤ 65536 := by omega
  have b5 : (L : Int) ≤ 2000000 := by omega
  clear hp hL hwh hw hh
  go_enter Tryz.func62, Tryz.ntmps62
  go_wp2
  go_ret
  exact ⟨rfl, below_new _⟩
/-- The neighbours of a place of a frame, in their order. -/
def aroundL (L : List (Int × Int)) (w : Nat) (F : List Nat) (x y : Nat) : List Nat := L.map fun d => F.getD (((y : Int) + d.2 + 1).toNat * (w + 2) + ((x : Int) + d.1 + 1).toNat) 0
theorem aroundL_len (L : List (Int × Int)) (w : Nat) (F : List Nat) (x y : Nat) : (aroundL L w F x y).length = L.length := by unfold aroundL; simp
theorem aroundL_take (L : List (Int × Int)) (w : Nat) (F : List Nat) (x y : Nat) {j : Nat} (hj : j < L.length) :
    ((aroundL L w F x y).take (j + 1)).map yv = ((aroundL L w F x y).take j).map yv ++ [.int .u8 ((F.getD (((y : Int) + (L.getD j (0, 0)).2 + 1).toNat * (w + 2) + ((x : Int) + (L.getD j (0, 0)).1 + 1).toNat) 0 : Nat) : Int)] := by
  have hl := aroundL_len L w F x y
  have h2 : (aroundL L w F x y)[j]? = some (F.getD (((y : Int) + (L.getD j (0, 0)).2 + 1).toNat * (w + 2) + ((x : Int) + (L.getD j (0, 0)).1 + 1).toNat) 0) := by
    unfold aroundL
    have e : L.getD j (0, 0) = L[j] := by rw [List.getD_eq_getElem?_getD, List.getElem?_eq_getElem hj]; rfl
    rw [List.getElem?_map, List.getElem?_eq_getElem hj, e]
    rfl
  rw [List.take_add_one, h2]
  simp [yv]
theorem made51 (n : Nat) (h : n ≤ 8) (W : World) : (Instr.makeSlice 51 (.int .i64 0) (.int .i64 (n : Int))).run Tryz.prog W = .ok (.slice (some ⟨W.heap.size, 0, none⟩) 0 n) (W.alloc (.cells (madeCells #[.int .u8 0] (n * 1)) 5)) := by
  obtain ⟨i, hi, hzz⟩ := Option.map_eq_some_iff.1 info5'
  simp only [Prod.mk.injEq] at hzz
  obtain ⟨hz, hs, hb⟩ := hzz
  have hb' : (i.bytes : Int) * (n : Int) ≤ 281474976710656 := by rw [hb]; omega
  have hr := run_make (P := Tryz.prog) W 51 5 i _ Tryz.underlying51 hi hz .i64 .i64 0 n (by omega) (by omega) hb' (by omega)
  simp only [Int.toNat_natCast, hs] at hr
  exact hr
def AroRel (W0 W5 : World) (base : Nat) (l : List Nat) (v i : Value) (wr : World) : Prop := ∃ j : Nat, j ≤ l.length ∧ i = .int .i64 (j : Int) ∧ wr.ownsRow base 5 1 v j ((l.take j).map yv) ∧ Below base W5 wr
def AroPost (W : World) (l : List Nat) (e : Ending) (w' : World) : Prop := ∃ v, e = .returned (.tuple #[v, .int .i64 0]) ∧ HasY w' v l ∧ Below W.heap.size W w'
set_option maxRecDepth 20000 in
set_option maxHeartbeats 8000000 in
theorem around31 {w h g L : Nat} {F : List Nat} {hd : Int} {x y : Nat} {W : World} (hw : 1 ≤ w ∧ w ≤ 65536) (hh : 1 ≤ h ∧ h ≤ 65536) (hwh : w * h ≤ 1048576) (hL : L = (w + 2) * (h + 2)) (hF : YBlk W g F) (hl : F.length = L) (hd3 : hd = 1 ∨ hd = 2 ∨ hd = 3) (hx : x < w) (hy : y < h) :
    Calls Tryz.prog 31 #[frameV w h g L, .int .u8 hd, .int .i64 (x : Int), .int .i64 (y : Int)] W (AroPost W (aroundL (offs hd) w F x y)) := by
  have K1 := Lib.hid (fun W' => check62 (w := w) (h := h) (g := g) hw hh hwh hL W')
  have K2 : Hid (∀ W', Calls Tryz.prog 50 #[.int .u8 hd] W' fun e w' => ∃ v, e = .returned (.tuple #[v, .int .i64 0]) ∧ w'.ownsRow W'.heap.size 111 2 v (offs hd).length (ptCells (offs hd)) ∧ Below W'.heap.size W' w') := fun W' => by
    have := offsets_any hd W'
    rw [hoodErr_good hd3] at this
    exact this
  have hF' := Lib.hid hF
  have hLb : L ≤ 2000000 := by
    rw [hL, Nat.add_mul, Nat.mul_add]
    omega
  have hnear := Lib.hid (fun k hk => offs_near hd3 k hk)
  have h8 : (offs hd).length ≤ 8 := offs_len hd
  have hoL : Hid (offs hd = offs hd) := rfl
  generalize offs hd = O at *
  obtain ⟨n, hn⟩ : ∃ n, Hid (n = O.length) := ⟨_, rfl⟩
  obtain ⟨A, hA⟩ : ∃ A, Hid (A = aroundL O w F x y) := ⟨_, rfl⟩
  have hAl : Hid (A.length = n) := by show _ = _; rw [hA.out, hn.out, aroundL_len]
  have hAt : Hid (∀ j, j < n → (A.take (j + 1)).map yv = (A.take j).map yv ++ [.int .u8 ((F.getD (((y : Int) + (O.getD j (0, 0)).2 + 1).toNat * (w + 2) + ((x : Int) + (O.getD j (0, 0)).1 + 1).toNat) 0 : Nat) : Int)]) := fun j hj => by
    rw [hA.out]
    exact aroundL_take O w F x y (by rw [← hn.out]; exact hj)
  rw [← hA.out]
  rw [← hn.out] at h8
  have hlh := Lib.hid hl
  have hLh := Lib.hid hL
  have x1 : (x : Int) < (w : Int) := by omega
  have y1 : (y : Int) < (h : Int) := by omega
  have bw : (w : Int) ≤ 65536 := by omega
  have bh : (h : Int) ≤ 65536 := by omega
  obtain ⟨i0, hi, iz0, iz1, iz2⟩ := info_parts info5'
  have hi' := Lib.hid hi
  clear hi hF hl hL hwh hw hh hd3 hoL
  obtain ⟨W2, hW2⟩ : ∃ W2, Hid (W2 = W.alloc (.cells #[.int .i64 (w : Int), .int .i64 (h : Int), .slice (some ⟨g, 0, none⟩) L L] 85)) := ⟨_, rfl⟩
  have hB2 : Hid (Below W.heap.size W W2) := by rw [hW2.out]; exact below_new _
  have E2 : Hid (W2.heap[W.heap.size]? = some (.cells #[.int .i64 (w : Int), .int .i64 (h : Int), .slice (some ⟨g, 0, none⟩) L L] 85 (0, 0))) := by rw [hW2.out]; exact heap_alloc_new W _
  have hW2l : W.heap.size < W2.heap.size := (Array.getElem?_eq_some_iff.1 E2.out).1
  have z1 : ¬ ((x : Int) < 0) := by omega
  have z2 : ¬ (w ≤ x) := by omega
  have z3 : ¬ ((y : Int) < 0) := by omega
  have z4 : ¬ (h ≤ y) := by omega
  go_enter Tryz.func31, Tryz.ntmps31
  go_wp2_with fail
  rw [← hW2.out]
  clear hW2
  refine (K1.out _).mono ?_
  rintro e w1 ⟨rfl, hb⟩
  have hB1 := Lib.hid (below_then hB2.out hb hB2.out.size)
  have E1 : Hid (w1.heap[W.heap.size]? = some (.cells #[.int .i64 (w : Int), .int .i64 (h : Int), .slice (some ⟨g, 0, none⟩) L L] 85 (0, 0))) := (hb.block _ hW2l).trans E2.out
  have hz : W.heap.size < w1.heap.size := (Array.getElem?_eq_some_iff.1 E1.out).1
  clear hb E2 hB2 hW2l K1
  go_wp2_with fail
  refine (K2.out _).mono ?_
  rintro e w2 ⟨ov, rfl, hov, hb⟩
  have hP := Lib.hid (HasPts.own hov)
  have hB3 := Lib.hid (below_then hB1.out hb hB1.out.size)
  have E3 : Hid (w2.heap[W.heap.size]? = some (.cells #[.int .i64 (w : Int), .int .i64 (h : Int), .slice (some ⟨g, 0, none⟩) L L] 85 (0, 0))) := (hb.block _ hz).trans E1.out
  have q0 : w2.cell? ⟨W.heap.size, 0, none⟩ = some (.int .i64 (w : Int)) := by rw [cell_of_row w2 _ 0 _ 85 (0, 0) E3.out]; rfl
  have q1 : w2.cell? ⟨W.heap.size, 1, none⟩ = some (.int .i64 (h : Int)) := by rw [cell_of_row w2 _ 1 _ 85 (0, 0) E3.out]; rfl
  have hz2 : W.heap.size < w2.heap.size := (Array.getElem?_eq_some_iff.1 E3.out).1
  clear hb hov E1 K2 hz
  obtain ⟨oa, oc, rfl, _⟩ := hP.out
  rw [← hn.out]
  have hmk := made51 n h8
  obtain ⟨W5, hW5⟩ : ∃ W5, Hid (W5 = w2.alloc (.cells (madeCells #[.int .u8 0] n) 5)) := ⟨_, rfl⟩
  have hb5 : Below w2.heap.size w2 W5 := by rw [hW5.out]; exact below_new _
  have hO5 : Hid (W5.ownsRow w2.heap.size 5 1 (.slice (some ⟨w2.heap.size, 0, none⟩) 0 n) 0 []) := by
    rw [hW5.out]
    exact World.ownsRow_made w2 _ n (Nat.le_refl _) (by unfold maxLen; omega) (by rw [size_madeCells]; simp)
  have hB5 := Lib.hid (below_then hB3.out hb5 hB3.out.size)
  have E5 : Hid (W5.heap[W.heap.size]? = some (.cells #[.int .i64 (w : Int), .int .i64 (h : Int), .slice (some ⟨g, 0, none⟩) L L] 85 (0, 0))) := (hb5.block _ hz2).trans E3.out
  have hb5' := Lib.hid hb5
  have hz5 : w2.heap.size ≤ W5.heap.size := hb5.size
  clear hb5 E3
  go_wp2_with fail
  rw [← hW5.out]
  clear hW5 hmk q0 q1
  go_loopw [13, 51] (fun v i wr => AroRel W W5 w2.heap.size A v i wr) (fun v i _ => n - (intOf i).toNat)
  case atStart => exact ⟨0, by omega, by go_num, hO5.out, Below.refl _ _⟩
  case round =>
    obtain ⟨j, hj, rfl, hown, hbr⟩ := hrel
    rw [hAl.out] at hj
    have hO := Lib.hid hown
    have hbr' := Lib.hid hbr
    have hwz : w2.heap.size ≤ wr.heap.size := Nat.le_trans hz5 hbr.size
    have Er : wr.heap[W.heap.size]? = some (.cells #[.int .i64 (w : Int), .int .i64 (h : Int), .slice (some ⟨g, 0, none⟩) L L] 85 (0, 0)) := (hbr.block _ hz2).trans E5.out
    have q0 : wr.cell? ⟨W.heap.size, 0, none⟩ = some (.int .i64 (w : Int)) := by rw [cell_of_row wr _ 0 _ 85 (0, 0) Er]; rfl
    have q2 : wr.cell? ⟨W.heap.size, 2, none⟩ = some (.slice (some ⟨g, 0, none⟩) L L) := by rw [cell_of_row wr _ 2 _ 85 (0, 0) Er]; rfl
    have hWz : W.heap.size < wr.heap.size := by omega
    clear hown hbr Er
    by_cases hlt : j < n
    · obtain ⟨n1, n2, n3, n4⟩ := hnear.out j (by rw [← hn.out]; exact hlt)
      have hbw : Below w2.heap.size w2 wr := hb5'.out.trans hbr'.out
      have hPr := hP.out.kept hbw
      obtain ⟨oa', oc', e', hcs⟩ := hPr
      cases e'
      obtain ⟨go, rfl, o1, o2⟩ := hcs j (by rw [← hn.out]; exact hlt)
      have hgo : go < wr.heap.size := World.block_lt_of_cell? wr _ o1
      have ht' := hAt.out j hlt
      generalize (O.getD j (0, 0)).1 = dx at *
      generalize (O.getD j (0, 0)).2 = dy at *
      clear hcs
      obtain ⟨Y, hY⟩ : ∃ Y : Nat, (y : Int) + dy + 1 = (Y : Int) := ⟨((y : Int) + dy + 1).toNat, by omega⟩
      obtain ⟨X, hX⟩ : ∃ X : Nat, (x : Int) + dx + 1 = (X : Int) := ⟨((x : Int) + dx + 1).toNat, by omega⟩
      have hYt : ((y : Int) + dy + 1).toNat = Y := by omega
      have hXt : ((x : Int) + dx + 1).toNat = X := by omega
      rw [hYt, hXt] at ht'
      obtain ⟨P, hPd⟩ : ∃ P, P = Y * (w + 2) := ⟨_, rfl⟩
      have hPI : (Y : Int) * ((w : Int) + 2) = (P : Int) := by rw [hPd]; simp
      have hPL : P + (w + 2) ≤ L := by
        have h1 : (Y + 1) * (w + 2) ≤ (h + 2) * (w + 2) := Nat.mul_le_mul_right _ (by omega)
        rw [Nat.add_mul, Nat.one_mul, ← hPd, Nat.mul_comm (h + 2), ← hLh.out] at h1
        exact h1
      rw [← hPd] at ht'
      obtain ⟨q, hq⟩ : ∃ q, q = P + X := ⟨_, rfl⟩
      have hqI : (P : Int) + (x : Int) + dx + 1 = (q : Int) := by omega
      have hqL : (q : Int) < (L : Int) := by omega
      have hq0 : (0 : Int) ≤ (q : Int) := by omega
      rw [← hq] at ht'
      have fq : wr.cell? ⟨g, q, none⟩ = some (.int .u8 ((F.getD q 0 : Nat) : Int)) := (hF'.out.kept (below_then hB3.out hbw hB3.out.size)).cell (by rw [hlh.out]; omega)
      have hgl : g < wr.heap.size := World.block_lt_of_cell? wr _ fq
      generalize F.getD q 0 = fv at *
      have hji : (j : Int) < (n : Int) := by omega
      have hPb : (P : Int) ≤ 2000000 := by omega
      have hbw' := Lib.hid hbw
      clear hPd hq hYt hXt hbw
      go_wp2_with (first
        | (at_builtin; go_loud (refine wpList_append_own _ rfl _ _ 51 rfl w2.heap.size 5 i0 _ 1 1 Tryz.underlying51 hi'.out iz0 iz1 iz2 rfl (by decide) _ _ _ rfl ((hO.out.alloc _).alloc _) ⟨wr.heap.size + 1, 0, none⟩ 1 1 [.int .u8 (fv : Int)] rfl rfl ?c1 ?c2 ?c3 ?c4 ?c5 ?_))
        | go_in)
      case c1 =>
        intro j u hj
        match j, hj with
        | 0, hj => simp at hj; subst hj; simp [Addr.add]
      case c2 => intro u hu; simp at hu; rcases hu with rfl; rfl
      case c3 => unfold maxLen; omega
      case c4 => omega
      case c5 => simp; omega
      intro v' w3 hown' hgrow _
      have R : Hid (AroRel W W5 w2.heap.size A v' (.int .i64 ((j : Int) + 1)) w3) := by
        refine ⟨j + 1, by rw [hAl.out]; omega, by go_num, ?_, ?_⟩
        · rw [ht', List.map_take]
          exact hown'
        · have b1 : Below w2.heap.size W5 ((wr.alloc (.cells #[.int .i64 dx, .int .i64 dy] 111)).alloc (.cells #[.int .u8 (fv : Int)] 5)) := (hbr'.out.alloc (by omega) _).alloc (by simp; omega) _
          exact b1.grown hgrow (Nat.le_trans hz5 b1.size) (fun q e => (hO.out.lt q e).1)
      clear hown' hgrow
      go_wp2
      exact ⟨R.out, by simp [intOf]; omega⟩
    · obtain rfl : j = n := by omega
      have hY9 : Hid (HasY wr (_) A) := Lib.hid (HasY.own (v := u13) (by
        have := hO.out
        rw [List.take_of_length_le (by rw [hAl.out]; exact Nat.le_refl _)] at this
        rw [hAl.out]
        exact this))
      go_wp2_with fail
      refine bodyPost_ret (v := .tuple #[u13, .int .i64 0]) ?_ rfl ⟨u13, rfl, hY9.out, ?_⟩
      · simp only [results, Tryz.f31, Array.toList]
        go_simp
      · exact hB3.out.trans ((hb5'.out.trans hbr'.out).mono hB3.out.size)
end Go.Proofs.YtcbhbojplcddkaaGreatDoor
