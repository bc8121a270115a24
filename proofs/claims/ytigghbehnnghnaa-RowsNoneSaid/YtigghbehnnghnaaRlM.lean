import Derived.Test.YtigghbehnnghnaaRlL
namespace Go.Proofs.Ytigghbehnnghnaa
open Go.RowKit Go.RowBits Go.MapRaw Go.Maps
set_option linter.unusedSimpArgs false
set_option linter.unusedVariables false

/-! ### number and Row, whatever the row -/
def idOf (rows : List (List Nat)) (most : Nat) (r : List Nat) : Nat := if r ∈ rows then rows.idxOf r else if most ≤ rows.length then 0 else rows.length
def errOf (rows : List (List Nat)) (most : Nat) (r : List Nat) : Int := if r ∈ rows then 0 else if most ≤ rows.length then 4 else 0
def after (rows : List (List Nat)) (most : Nat) (r : List Nat) : List (List Nat) := if r ∈ rows then rows else if most ≤ rows.length then rows else rows ++ [r]
/-- A book somewhere, whatever its list lies in. -/
def Book (p : BP) (B : Nat) (W : World) (bk bn bw : Nat) (rows : List (List Nat)) (wk : List ((Nat × Nat × Nat) × Nat)) : Prop := ∃ kv ks, BookAt p B W bk bn bw kv ks rows wk
section
variable {p : BP} {B : Nat} {W W' : World} {bk bn bw : Nat} {kv : Value} {ks : List Value} {rows : List (List Nat)} {wk : List ((Nat × Nat × Nat) × Nat)}
theorem Book.kept (h : Book p B W bk bn bw rows wk) (hb : Below W.heap.size W W') : Book p B W' bk bn bw rows wk := by
  obtain ⟨kv, ks, h⟩ := h
  exact ⟨kv, ks, h.kept' hb⟩
theorem Book.size (h : Book p B W bk bn bw rows wk) : B ≤ W.heap.size := by
  obtain ⟨kv, ks, h⟩ := h
  have := h.Bk
  have := (Array.getElem?_eq_some_iff.1 h.blk).1
  omega
theorem number50 (h : Book p B W bk bn bw rows wk) (hn : 1 ≤ p.n ∧ p.n ≤ 65536) {r : List Nat} (hr : r.length = p.n) (hr2 : ∀ j, r.getD j 0 < 2) {v : Value} (hv : HasY W v r) : Calls Try.prog 50 #[.pointer (some ⟨bk, 0, none⟩), v] W fun e w' =>
    e = .returned (.tuple #[.int .i64 (idOf rows p.most r : Int), .int .i64 (errOf rows p.most r)]) ∧ Book p B w' bk bn bw (after rows p.most r) wk ∧ YF B W w' := by
  have hs := h.size
  obtain ⟨kv, ks, h⟩ := h
  unfold idOf errOf after
  by_cases hin : r ∈ rows
  · simp only [if_pos hin]
    have hid : rows.idxOf r < rows.length := List.idxOf_lt_length_iff.2 hin
    have hg : rows.getD (rows.idxOf r) [] = r := by simp [hid]
    refine (number50_hit h hn hid (by rw [hg]; exact hv)).mono fun e w' ⟨he, hb⟩ => ⟨he, ⟨_, _, h.kept' hb⟩, YF.of_below hb hs⟩
  · simp only [if_neg hin]
    by_cases hf : p.most ≤ rows.length
    · simp only [if_pos hf]
      exact (number50_full h hn hr hr2 hin hf hv).mono fun e w' ⟨he, hb⟩ => ⟨he, ⟨_, _, h.kept' hb⟩, YF.of_below hb hs⟩
    · simp only [if_neg hf]
      exact number50_new h hn hr hr2 hin (by omega) hv

set_option maxRecDepth 20000 in
set_option maxHeartbeats 2000000 in
theorem row21 (h : Book p B W bk bn bw rows wk) (hn : 1 ≤ p.n ∧ p.n ≤ 65536) {r : List Nat} (hr : r.length = p.n) (hr2 : ∀ j, r.getD j 0 < 2) {v : Value} (hv : HasY W v r) : Calls Try.prog 21 #[.pointer (some ⟨bk, 0, none⟩), v] W fun e w' =>
    e = .returned (.tuple #[.int .i64 (idOf rows p.most r : Int), .int .i64 (errOf rows p.most r)]) ∧ Book p B w' bk bn bw (after rows p.most r) wk ∧ YF B W w' := by
  have K2 := Lib.hid (number50 h hn hr hr2 hv)
  obtain ⟨kv, ks, h⟩ := h
  have K1 := Lib.hid (none51 h)
  have c12 : W.cell? ⟨bk, 12, none⟩ = some (.int .i64 (p.n : Int)) := h.cell rfl
  have c16 : W.cell? ⟨bk, 16, none⟩ = some (.int .i64 2) := h.cell rfl
  have hr2' := Lib.hid hr2
  obtain ⟨ad, cap, rfl, hc⟩ := hv
  have hc' := Lib.hid hc
  have hrI : (r.length : Int) = (p.n : Int) := by omega
  rw [← hr] at c12 hn
  have hr' := Lib.hid hr
  clear h hr hr2 hc hrI
  generalize idOf rows p.most r = I at *
  generalize errOf rows p.most r = E at *
  go_enter Try.func21, Try.ntmps21
  go_wp2_with fail
  refine (K1.out).mono ?_
  rintro e w' ⟨rfl, rfl⟩
  go_wp2
  go_loop [20] (fun i => ∃ k : Nat, k ≤ r.length ∧ i = .int .i64 (k : Int)) (fun i => r.length - (intOf i).toNat)
  case atStart => exact ⟨0, by omega, by go_num⟩
  case round =>
    obtain ⟨k, hk, rfl⟩ := hrel
    by_cases hlt : k < r.length
    · obtain ⟨g, o, rfl, c1⟩ := hc'.out k hlt
      have hx := hr2'.out k
      generalize r.getD k 0 = x at *
      have hxI : (x : Int) < 2 := by omega
      go_wp2
      go_round
      case rel => exact ⟨k + 1, by omega, by go_num⟩
      case measure => simp [intOf]; omega
    · obtain rfl : k = r.length := by omega
      clear hlt
      go_wp2_with fail
      refine (K2.out).mono ?_
      rintro e w5 ⟨rfl, hk5, hf5⟩
      have hk5' := Lib.hid hk5
      have hf5' := Lib.hid hf5
      clear hk5 hf5
      go_wp2
      go_ret2
      exact ⟨rfl, hk5'.out, hf5'.out⟩
end
end Go.Proofs.Ytigghbehnnghnaa
