import Derived.Test.YtigghbehnnghnaaDoorZGdT2
namespace Go.Proofs.YtigghbehnnghnaaDoor
open Go.RowKit Go.RowBits Go.Shelf
set_option linter.unusedSimpArgs false
set_option linter.unusedVariables false

/-! ### PackedNames' walk -/
theorem lineE_none : lineE 0 0 0 0 0 0 [] [] [] = 8 := by
  unfold lineE lifeE
  rw [if_neg (by decide)]
theorem lineE_short : lineE 1 8 12 2 0 0 [0] [] [] = 20 := by
  unfold lineE
  rw [if_pos may_alive.1, if_neg]
  rintro ⟨⟨_, h⟩, _⟩
  exact absurd h (by decide)
theorem line8_err {w w' : World} {hood : Int} {born stay : Nat} {N0 N1 N2 : Int} {a h b : List Nat} {e : Ending} {E : Int} (hL : lineE hood born stay N0 N1 N2 a h b = E) (h0 : E ≠ 0) (hq : LineIs w w' hood born stay N0 N1 N2 a h b e) :
    e = .returned (.tuple #[.agg #[.int .i64 0, .slice none 0 0], .int .i64 E]) ∧ Below w.heap.size w w' := by
  unfold LineIs at hq
  rw [if_neg (by rw [hL]; exact h0), hL] at hq
  exact hq
set_option maxRecDepth 100000 in
set_option maxHeartbeats 4000000 in
theorem names3 (W : World) (hT : Tab W) : Calls Tryd.prog 3 #[] W fun e w' => e = .returned (.bool true) ∧ Below W.heap.size W w' := by
  have hT' := Lib.hid hT
  clear hT
  have K1 := Lib.hid (run7none (W0 := W) (W := 0) (H := 0) (sh := 0) (n := -1) (hd := 0) (born := 0) (stay := 0) (k := 0) (tn := 0) (fv := .pointer none) fun W' hb => w37n W')
  go_enter Tryd.func3, Tryd.ntmps3
  go_wp2_with fail
  refine (K1.out).mono ?_
  rintro e w1 ⟨rfl, hb⟩
  have hB1 := Lib.hid hb
  have K2 : Hid (Calls Tryd.prog 8 #[lifeV 0 0 0, .agg #[.int .i64 0, .slice none 0 0], .agg #[.int .i64 0, .slice none 0 0], .agg #[.int .i64 0, .slice none 0 0]] w1 fun e w' => LineIs w1 w' 0 0 0 0 0 0 [] [] [] e) :=
    pline14 (w := w1) (hood := 0) (born := 0) (stay := 0) (by decide) (by decide) (fun _ => 0) (fun _ => .slice none 0 0) (fun _ => []) (fun j hj => HasW.nil w1) (fun j hj k => by show ([] : List Nat).getD k 0 < U; unfold U; simp)
  clear hb K1
  go_wp2_with fail
  refine (K2.out).mono ?_
  rintro e w2 hq
  obtain ⟨rfl, hb⟩ := line8_err lineE_none (by decide) hq
  obtain ⟨w3, hw3⟩ : ∃ w3, Hid (w3 = w2.alloc (.cells #[.int .i64 0, .slice none 0 0] 33)) := ⟨_, rfl⟩
  have hb3 : Below w2.heap.size w2 w3 := by rw [hw3.out]; exact below_new _
  have hB3 := Lib.hid (below_then (below_then hB1.out hb hB1.out.size) hb3 (Nat.le_trans hB1.out.size hb.size))
  have KC := Lib.hid (conway9 w3)
  clear hq hb hb3 K2
  go_wp2_with fail
  rw [← hw3.out]
  clear hw3
  refine (KC.out).mono ?_
  rintro e w4 ⟨rfl, hb⟩
  have hB4 := Lib.hid (below_then hB3.out hb hB3.out.size)
  obtain ⟨w5, hw5⟩ : ∃ w5, Hid (w5 = w4.alloc (.cells #[.int .u64 0] 37)) := ⟨_, rfl⟩
  have hb5 : Below w4.heap.size w4 w5 := by rw [hw5.out]; exact below_new _
  have hP : Hid (WBlk w5 w4.heap.size [0]) := by rw [hw5.out]; exact WBlk.new w4 _ [0] rfl
  have hB5 := Lib.hid (below_then hB4.out hb5 hB4.out.size)
  have K2 : Hid (Calls Tryd.prog 8 #[lifeV 1 8 12, .agg #[.int .i64 2, .slice (some ⟨w4.heap.size, 0, none⟩) 1 1], .agg #[.int .i64 0, .slice none 0 0], .agg #[.int .i64 0, .slice none 0 0]] w5 fun e w' => LineIs w5 w' 1 8 12 2 0 0 [0] [] [] e) :=
    pline14 (w := w5) (hood := 1) (born := 8) (stay := 12) (by decide) (by decide) (fn3 2 0 0) (fn3 (.slice (some ⟨w4.heap.size, 0, none⟩) 1 1) (.slice none 0 0) (.slice none 0 0)) (fn3 [0] [] [])
      (fun j hj => by
        match j, hj with
        | 0, _ => exact hP.out.has (cap := 1)
        | 1, _ => exact HasW.nil w5
        | 2, _ => exact HasW.nil w5)
      (fun j hj => by
        match j, hj with
        | 0, _ => exact (good5 (by decide)).w64
        | 1, _ => intro k; show ([] : List Nat).getD k 0 < U; unfold U; simp
        | 2, _ => intro k; show ([] : List Nat).getD k 0 < U; unfold U; simp)
  clear hb hb5 KC
  go_wp2_with fail
  rw [← hw5.out]
  clear hw5
  refine (K2.out).mono ?_
  rintro e w6 hq
  obtain ⟨rfl, hb⟩ := line8_err lineE_short (by decide) hq
  obtain ⟨w7, hw7⟩ : ∃ w7, Hid (w7 = w6.alloc (.cells #[.int .i64 0, .slice none 0 0] 33)) := ⟨_, rfl⟩
  have hb7 : Below w6.heap.size w6 w7 := by rw [hw7.out]; exact below_new _
  have hB7 := Lib.hid (below_then (below_then hB5.out hb hB5.out.size) hb7 (Nat.le_trans hB5.out.size hb.size))
  have K4 := Lib.hid (alive10 w7 (hT'.out.kept hB7.out))
  clear hq hb hb7 K2
  go_wp2_with fail
  rw [← hw7.out]
  refine (K4.out).mono ?_
  rintro e w8 ⟨rfl, hb⟩
  have hB8 := Lib.hid (below_then hB7.out hb hB7.out.size)
  clear hb
  go_wp2_with fail
  refine bodyPost_ret (v := .bool true) ?_ rfl ⟨rfl, hB8.out⟩
  simp only [results, Tryd.f3, Array.toList]
  go_simp
end Go.Proofs.YtigghbehnnghnaaDoor
