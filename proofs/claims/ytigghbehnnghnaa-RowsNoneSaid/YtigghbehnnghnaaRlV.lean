import Derived.Test.YtigghbehnnghnaaRlU
namespace Go.Proofs.Ytigghbehnnghnaa
open Go.RowKit Go.RowBits Go.MapRaw Go.Maps
set_option linter.unusedSimpArgs false
set_option linter.unusedVariables false

/-! ### RowsNone -/
set_option maxRecDepth 20000 in
set_option maxHeartbeats 4000000 in
theorem rowsNone_walk (v : Value) (a b c : Int) (w : World) : Calls Try.prog 5 #[v, .int .i64 a, .int .i64 b, .int .i64 c] w fun e w' => e = .returned (.bool true) ∧ Below w.heap.size w w' := by
  have K1 := Lib.hid alive17
  have KN := Lib.hid (fun W => none51n (W := W))
  have KZ := Lib.hid (fun (W : World) bk (hc : W.cell? ⟨bk, 18, none⟩ = some (.map none)) => none51z (W := W) (bk := bk) 0 hc)
  go_enter Try.func5, Try.ntmps5
  go_wp2_with fail
  refine (K1.out _).mono ?_
  rintro e w1 ⟨rfl, hb⟩
  have hB1 := Lib.hid hb
  clear hb
  have hn : Hid (∀ W, Calls Try.prog 51 #[.pointer none] W fun e w' => e = .returned (.bool true) ∧ w' = W) := fun W => none51n
  clear KN
  go_wp2_with fail
  have hcell : (w1.alloc (.cells #[.int .u8 0, .int .u8 0, .int .u16 0, .int .u16 0, .int .i64 0, .string ⟨#[]⟩, .int .i64 0, .int .u8 0, .int .u8 0, .slice none 0 0, .slice none 0 0, .int .u8 0, .int .i64 0, .int .i64 0, .int .u8 0, .int .i64 0, .int .i64 0, .int .i64 0, .map none, .slice none 0 0, .map none] 60)).cell? ⟨w1.heap.size, 18, none⟩ = some (.map none) := by go_simp
  have hz := Lib.hid (KZ.out _ _ hcell)
  have hbZ := Lib.hid (below_new (w := w1) (.cells #[.int .u8 0, .int .u8 0, .int .u16 0, .int .u16 0, .int .i64 0, .string ⟨#[]⟩, .int .i64 0, .int .u8 0, .int .u8 0, .slice none 0 0, .slice none 0 0, .int .u8 0, .int .i64 0, .int .i64 0, .int .u8 0, .int .i64 0, .int .i64 0, .int .i64 0, .map none, .slice none 0 0, .map none] 60))
  clear hcell
  generalize hW2 : (w1.alloc _) = W2 at *
  have hB2 : Hid (Below w.heap.size w W2) := below_then hB1.out hbZ.out hB1.out.size
  clear hW2 hbZ
  refine (row21_none (Lib.hid (hn.out _)) _).mono ?_
  rintro e w' ⟨rfl, rfl⟩
  go_wp2_with fail
  refine (row21_none hz _).mono ?_
  rintro e w' ⟨rfl, rfl⟩
  go_wp2_with fail
  refine (cells24_none (Lib.hid (hn.out _)) _).mono ?_
  rintro e w' ⟨rfl, rfl⟩
  go_wp2_with fail
  refine (cells24_none hz _).mono ?_
  rintro e w' ⟨rfl, rfl⟩
  go_wp2_with fail
  refine (next22_none (Lib.hid (hn.out _)) _ _ _).mono ?_
  rintro e w' ⟨rfl, rfl⟩
  go_wp2_with fail
  refine (next22_none hz _ _ _).mono ?_
  rintro e w' ⟨rfl, rfl⟩
  go_wp2_with fail
  refine (count23_none (Lib.hid (hn.out _))).mono ?_
  rintro e w' ⟨rfl, rfl⟩
  go_wp2_with fail
  refine (count23_none hz).mono ?_
  rintro e w' ⟨rfl, rfl⟩
  go_wp2_with fail
  go_ret
  exact ⟨rfl, hB2.out⟩
end Go.Proofs.Ytigghbehnnghnaa
