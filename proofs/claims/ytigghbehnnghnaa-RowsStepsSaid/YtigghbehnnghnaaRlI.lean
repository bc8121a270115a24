import Derived.Test.YtigghbehnnghnaaRlH
import Derived.Laws.OwnMore
import Derived.WalkSpells
namespace Go.Proofs.Ytigghbehnnghnaa
open Go.RowKit Go.RowBits Go.MapRaw Go.Maps
set_option linter.unusedSimpArgs false
set_option linter.unusedVariables false

/-! ### A book in memory -/
structure BP where
  h : Int
  born : Nat
  stay : Nat
  k : Int
  n : Nat
  most : Nat
abbrev bookCells (p : BP) (bn : Nat) (kv : Value) (bw : Nat) : Array Value :=
  #[.int .u8 1, .int .u8 p.h, .int .u16 (p.born : Int), .int .u16 (p.stay : Int), .int .i64 2, .string ⟨#[]⟩, .int .i64 0, .int .u8 0, .int .u8 0, .slice none 0 0, .slice none 0 0,
    .int .u8 p.k, .int .i64 (p.n : Int), .int .i64 0, .int .u8 0, .int .i64 0, .int .i64 2, .int .i64 (p.most : Int), .map (some bn), kv, .map (some bw)]
def numL (rows : List (List Nat)) : List (Value × Value) := (List.range rows.length).map fun i => (strv (rows.getD i []), .int .i64 (i : Int))
def wrkL (wk : List ((Nat × Nat × Nat) × Nat)) : List (Value × Value) := wk.map fun x => (idv x.1.1 x.1.2.1 x.1.2.2, .int .i64 (x.2 : Int))
structure BookAt (p : BP) (B : Nat) (W : World) (bk bn bw : Nat) (kv : Value) (ks : List Value) (rows : List (List Nat)) (wk : List ((Nat × Nat × Nat) × Nat)) : Prop where
  blk : W.heap[bk]? = some (.cells (bookCells p bn kv bw) 60 (0, 0))
  num : MapIs Try.prog 9 W bn (numL rows)
  wrk : MapIs Try.prog 104 W bw (wrkL wk)
  nw : bn ≠ bw
  Bk : B ≤ bk
  Bn : B ≤ bn
  Bw : B ≤ bw
  kept : W.ownsRow B 53 1 kv rows.length ks
  row : ∀ i, i < rows.length → ∃ g, ks[i]? = some (.slice (some ⟨g, 0, none⟩) p.n p.n) ∧ YBlk W g (rows.getD i [])
  len : ∀ i, i < rows.length → (rows.getD i []).length = p.n
  two : ∀ i j, i < rows.length → (rows.getD i []).getD j 0 < 2
  nodup : rows.Nodup
  most : rows.length ≤ p.most
  m1 : p.most ≤ 65536
  wkin : ∀ x ∈ wk, x.1.1 < rows.length ∧ x.1.2.1 < rows.length ∧ x.1.2.2 < rows.length ∧ x.2 < rows.length
/-- What any call leaves: all below B, and all blocks of cells but the books and the lists of rows. -/
def YF (B : Nat) (W W' : World) : Prop := Below B W W' ∧ ∀ (g : Nat) (cs : Array Value) (T : Nat) (fz : Nat × Nat), W.heap[g]? = some (.cells cs T fz) → T ≠ 53 → T ≠ 60 → W'.heap[g]? = some (.cells cs T fz)
theorem YF.refl (B : Nat) (W : World) : YF B W W := ⟨Below.refl _ _, fun _ _ _ _ h _ _ => h⟩
theorem YF.trans {B : Nat} {a b c : World} (h : YF B a b) (k : YF B b c) : YF B a c := ⟨h.1.trans k.1, fun g cs T fz x h1 h2 => k.2 g cs T fz (h.2 g cs T fz x h1 h2) h1 h2⟩
theorem YF.of_below {B : Nat} {W W' : World} (hb : Below W.heap.size W W') (hB : B ≤ W.heap.size) : YF B W W' := ⟨hb.mono hB, fun g cs T fz h _ _ => (hb.block g (Array.getElem?_eq_some_iff.1 h).1).trans h⟩
theorem YF.y {B : Nat} {W W' : World} (h : YF B W W') {g : Nat} {ws : List Nat} (hY : YBlk W g ws) : YBlk W' g ws := h.2 g _ _ _ hY (by decide) (by decide)
section
variable {p : BP} {B : Nat} {W W' : World} {bk bn bw : Nat} {kv : Value} {ks : List Value} {rows : List (List Nat)} {wk : List ((Nat × Nat × Nat) × Nat)}
theorem BookAt.kept' (h : BookAt p B W bk bn bw kv ks rows wk) (hb : Below W.heap.size W W') : BookAt p B W' bk bn bw kv ks rows wk :=
  ⟨(hb.block bk (Array.getElem?_eq_some_iff.1 h.blk).1).trans h.blk, h.num.of_block (hb.block bn h.num.lt), h.wrk.of_block (hb.block bw h.wrk.lt), h.nw, h.Bk, h.Bn, h.Bw, own_below h.kept hb,
    fun i hi => by obtain ⟨g, h1, h2⟩ := h.row i hi; exact ⟨g, h1, h2.kept hb⟩, h.len, h.two, h.nodup, h.most, h.m1, h.wkin⟩
theorem BookAt.cell (h : BookAt p B W bk bn bw kv ks rows wk) {j : Nat} {u : Value} (hj : (bookCells p bn kv bw)[j]? = some u) : W.cell? ⟨bk, j, none⟩ = some u := by
  rw [cell_of_row W bk j _ 60 (0, 0) h.blk, hj]
theorem BookAt.shape (h : BookAt p B W bk bn bw kv ks rows wk) : ∃ ad cap, kv = .slice ad rows.length cap := own_shape h.kept

set_option maxHeartbeats 1000000 in
theorem none51 (h : BookAt p B W bk bn bw kv ks rows wk) : Calls Try.prog 51 #[.pointer (some ⟨bk, 0, none⟩)] W fun e w' => e = .returned (.bool false) ∧ w' = W := by
  have c : W.cell? ⟨bk, 18, none⟩ = some (.map (some bn)) := h.cell rfl
  have q := fun (w : World) (r : Option Nat) => run_eql_map_nil (P := Try.prog) w 56 _ _ r Try.underlying56
  clear h
  go_enter Try.func51, Try.ntmps51
  go_wp2
  go_ret
  exact ⟨rfl, rfl⟩
set_option maxHeartbeats 1000000 in
theorem none51z (B : Nat) (hc : W.cell? ⟨bk, 18, none⟩ = some (.map none)) : Calls Try.prog 51 #[.pointer (some ⟨bk, 0, none⟩)] W fun e w' => e = .returned (.bool true) ∧ w' = W := by
  have q := fun (w : World) (r : Option Nat) => run_eql_map_nil (P := Try.prog) w 56 _ _ r Try.underlying56
  go_enter Try.func51, Try.ntmps51
  go_wp2
  go_ret
  exact ⟨rfl, rfl⟩
set_option maxHeartbeats 1000000 in
theorem none51n : Calls Try.prog 51 #[.pointer none] W fun e w' => e = .returned (.bool true) ∧ w' = W := by
  go_enter Try.func51, Try.ntmps51
  go_wp2
  go_ret
  exact ⟨rfl, rfl⟩
set_option maxHeartbeats 1000000 in
theorem has52 (h : BookAt p B W bk bn bw kv ks rows wk) {id : Int} (hid : 0 ≤ id ∧ id < (rows.length : Int)) : Calls Try.prog 52 #[.pointer (some ⟨bk, 0, none⟩), .int .i64 id] W fun e w' => e = .returned (.bool true) ∧ w' = W := by
  obtain ⟨ad, cap, rfl⟩ := h.shape
  have c : W.cell? ⟨bk, 19, none⟩ = some (.slice ad rows.length cap) := h.cell rfl
  obtain ⟨h1, h2⟩ := hid
  clear h
  go_enter Try.func52, Try.ntmps52
  go_wp2
  go_ret
  exact ⟨rfl, rfl⟩
set_option maxHeartbeats 1000000 in
theorem count23 (h : BookAt p B W bk bn bw kv ks rows wk) : Calls Try.prog 23 #[.pointer (some ⟨bk, 0, none⟩)] W fun e w' => e = .returned (.int .i64 (rows.length : Int)) ∧ w' = W := by
  have K := Lib.hid (none51 h)
  obtain ⟨ad, cap, rfl⟩ := h.shape
  have c : W.cell? ⟨bk, 19, none⟩ = some (.slice ad rows.length cap) := h.cell rfl
  clear h
  go_enter Try.func23, Try.ntmps23
  go_wp2_with fail
  refine (K.out).mono ?_
  rintro e w' ⟨rfl, rfl⟩
  go_wp2
  go_ret
  exact ⟨rfl, rfl⟩
end
end Go.Proofs.Ytigghbehnnghnaa
