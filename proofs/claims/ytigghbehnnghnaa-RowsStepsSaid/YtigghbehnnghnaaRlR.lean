import Derived.Test.YtigghbehnnghnaaRlQ
import Derived.Test.YtigghbehnnghnaaRlO
namespace Go.Proofs.Ytigghbehnnghnaa
open Go.RowKit Go.RowBits Go.MapRaw Go.Maps
set_option linter.unusedSimpArgs false
set_option linter.unusedVariables false

section
variable {p : BP} {B : Nat} {W W' : World} {bk bn bw : Nat} {rows : List (List Nat)} {wk : List ((Nat × Nat × Nat) × Nat)}
/-- Next, worked before or not. -/
theorem next22 (S : Strip p.h p.born p.stay p.k (p.n : Int)) (h : Book p B W bk bn bw rows wk) (hw : WkOk p rows wk) {a b c : Nat} (ha : a < rows.length) (hb : b < rows.length) (hc : c < rows.length) (hn : 1 ≤ p.n ∧ p.n ≤ 65536) : Calls Try.prog 22 #[.pointer (some ⟨bk, 0, none⟩), .int .i64 (a : Int), .int .i64 (b : Int), .int .i64 (c : Int)] W fun e w' =>
    e = .returned (.tuple #[.int .i64 (idOf rows p.most (nextRow p rows a b c) : Int), .int .i64 (errOf rows p.most (nextRow p rows a b c))]) ∧ (∃ wk', Book p B w' bk bn bw (after rows p.most (nextRow p rows a b c)) wk' ∧ WkOk p (after rows p.most (nextRow p rows a b c)) wk') ∧ YF B W w' := by
  have hs := h.size
  obtain ⟨kv, ks, h⟩ := h
  by_cases hin : ∃ x ∈ wk, x.1 = (a, b, c)
  · have hmem : nextRow p rows a b c ∈ rows := by
      obtain ⟨x, hx, hx1⟩ := hin
      have := (hw.id h.nodup hx).1
      rw [hx1] at this
      exact this
    have e1 : errOf rows p.most (nextRow p rows a b c) = 0 := by unfold errOf; rw [if_pos hmem]
    have e2 : after rows p.most (nextRow p rows a b c) = rows := by unfold after; rw [if_pos hmem]
    rw [e1, e2]
    exact (next22_hit h hw ha hb hc hin).mono fun e w' ⟨he, hb⟩ => ⟨he, ⟨wk, ⟨_, _, h.kept' hb⟩, hw⟩, YF.of_below hb hs⟩
  · exact next22_miss S h hw ha hb hc (fun x hx e => hin ⟨x, hx, e⟩) hn
end
set_option maxHeartbeats 1000000 in
theorem conway19 (w : World) : Calls Try.prog 19 #[] w fun e w' => e = .returned (lifeRule 1 8 12) ∧ Below w.heap.size w w' := by
  go_enter Try.func19, Try.ntmps19
  go_wp2
  refine bodyPost_ret (v := lifeRule 1 8 12) ?_ rfl ⟨rfl, below_new _⟩
  rw [results_cell1 rfl]
  go_simp
set_option maxHeartbeats 1000000 in
theorem four20 (w : World) : Calls Try.prog 20 #[] w fun e w' => e = .returned (topoV 2 (4 : Nat) 0) ∧ Below w.heap.size w w' := by
  go_enter Try.func20, Try.ntmps20
  go_wp2
  refine bodyPost_ret (v := topoV 2 (4 : Nat) 0) ?_ rfl ⟨rfl, below_new _⟩
  rw [results_cell1 rfl]
  go_simp
theorem strip_conway : Strip 1 8 12 2 ((4 : Nat) : Int) := ⟨by omega, by omega, by
  have : ruleOk 1 8 12 := by
    intro j hj hj2
    rw [offs_1] at hj
    have : 8 < j := hj
    obtain rfl | rfl | rfl | rfl | rfl | rfl | rfl : j = 9 ∨ j = 10 ∨ j = 11 ∨ j = 12 ∨ j = 13 ∨ j = 14 ∨ j = 15 := by omega
    all_goals decide
  unfold lifeE
  rw [if_pos (.inl rfl), if_pos this], .inl rfl, by
    intro j hj hj2
    rw [offs_1] at hj
    have : 8 < j := hj
    obtain rfl | rfl | rfl | rfl | rfl | rfl | rfl : j = 9 ∨ j = 10 ∨ j = 11 ∨ j = 12 ∨ j = 13 ∨ j = 14 ∨ j = 15 := by omega
    all_goals decide, by decide, .inr rfl, by omega⟩
end Go.Proofs.Ytigghbehnnghnaa
