import Derived.Test.YtigghbehnnghnaaPkC
import Derived.Laws.AppendOwnNone
namespace Go.Proofs.Ytigghbehnnghnaa
open Go.RowKit Go.RowBits
set_option linter.unusedSimpArgs false
set_option linter.unusedVariables false

/-- What lent answers: a row in memory of its own, two marks behind it. -/
def Lent (w : World) (base : Nat) (v : Value) (ws : List Nat) : Prop :=
  ∃ g cap, v = .slice (some ⟨g, 0, none⟩) ws.length cap ∧ w.ownsRow base 33 1 (.slice (some ⟨g, 0, none⟩) (ws.length + 2) cap) (ws.length + 2) ((ws ++ [77, 78]).map wv)

set_option maxRecDepth 20000 in
set_option maxHeartbeats 4000000 in
theorem lent13 {w : World} {v : Value} {ws : List Nat} (N : Int) (hl : ws.length * 8 + 16 ≤ 140737488355328) (h : HasW w v ws) (hnil : v = .slice none 0 0 ∨ ∃ a c, v = .slice (some a) ws.length c) :
    Calls Try.prog 13 #[.agg #[.int .i64 N, v]] w fun e w' => ∃ v', e = .returned (.agg #[.int .i64 N, v']) ∧ Lent w' w.heap.size v' ws ∧ Below w.heap.size w w' := by
  obtain ⟨i0, hi, hz0, hz1, hz2⟩ := info_parts info33'
  have hi' := Lib.hid hi
  clear hi
  rcases hnil with rfl | ⟨a, c, rfl⟩
  · have hws : ws = [] := by
      obtain ⟨ad, cap, e, _⟩ := h
      have : ws.length = 0 := by
        injection e with _ e2 _
        exact e2.symm
      exact List.eq_nil_of_length_eq_zero this
    subst hws
    obtain ⟨W1, hW1⟩ : ∃ W1, (w.alloc (.cells #[.int .i64 N, .slice none 0 0] 27)).alloc (.cells #[.int .i64 0, .slice none 0 0] 27) = W1 := ⟨_, rfl⟩
    have hB1 : Below w.heap.size w W1 := by rw [← hW1]; exact (below_new _).alloc (by simp) _
    have hs1 : W1.heap.size = w.heap.size + 2 := by rw [← hW1]; simp
    have x0 : W1.cell? ⟨w.heap.size, 0, none⟩ = some (.int .i64 N) := by subst hW1; go_simp
    have x1 : W1.cell? ⟨w.heap.size, 1, none⟩ = some (.slice none 0 0) := by subst hW1; go_simp
    have r0 : W1.cell? ⟨w.heap.size + 1, 0, none⟩ = some (.int .i64 0) := by subst hW1; go_simp
    have r1 : W1.cell? ⟨w.heap.size + 1, 1, none⟩ = some (.slice none 0 0) := by subst hW1; go_simp
    have rf : ∀ o, W1.frozen? ⟨w.heap.size + 1, o, none⟩ = false := fun o => by subst hW1; go_simp
    have hB1' := Lib.hid hB1
    have hs1' := Lib.hid hs1
    have hW1' := Lib.hid hW1
    have hX := Lib.hid (⟨x0, x1, r0, r1, rf⟩ : W1.cell? ⟨w.heap.size, 0, none⟩ = some (.int .i64 N) ∧ W1.cell? ⟨w.heap.size, 1, none⟩ = some (.slice none 0 0) ∧ W1.cell? ⟨w.heap.size + 1, 0, none⟩ = some (.int .i64 0) ∧ W1.cell? ⟨w.heap.size + 1, 1, none⟩ = some (.slice none 0 0) ∧ ∀ o, W1.frozen? ⟨w.heap.size + 1, o, none⟩ = false)
    clear hB1 hs1 hW1 x0 x1 r0 r1 rf
    go_enter Try.func13, Try.ntmps13
    go_wp2_with (first
      | (at_builtin; refine wpList_append_own_none rfl _ _ 25 rfl (w.heap.size + 2) 33 i0 1 Try.underlying25 hi'.out (.slice none 0 0) 0 [] rfl (World.ownsRow_nil _ _ _ _) rfl ?_)
      | (at_builtin; refine wpList_append_own _ rfl _ _ 25 rfl (w.heap.size + 2) 33 i0 _ 1 8 Try.underlying25 hi'.out hz0 hz1 hz2 rfl (by decide) (.slice none 0 0) 0 [] rfl (World.ownsRow_nil _ _ _ _) ⟨w.heap.size + 1 + 1, 0, none⟩ 2 2 [.int .u64 77, .int .u64 78] rfl rfl ?d2 ?d3 ?d4 ?d5 ?d6 ?_)
      | go_in)
    case d2 =>
      intro j u hj
      match j, hj with
      | 0, hj => simp at hj; subst hj; go_simp
      | 1, hj => simp at hj; subst hj; go_simp
    case d3 => intro u hu; simp at hu; rcases hu with rfl | rfl <;> rfl
    case d4 => unfold maxLen; omega
    case d5 => omega
    case d6 => simp
    intro v2 w3 ho2 hg2 _
    rw [hW1'.out] at hg2
    obtain ⟨x0, x1, r0, r1, rf⟩ := hX.out
    have k0 : ∀ b o u, b < W1.heap.size → W1.cell? ⟨b, o, none⟩ = some u → w3.cell? ⟨b, o, none⟩ = some u := fun b o u hb h => hg2.cell (cell_kept (below_new _) h) (fun e => by cases e)
    have y0 := k0 _ _ _ (by rw [hs1'.out]; omega) x0
    have y1 := k0 _ _ _ (by rw [hs1'.out]; omega) x1
    have s0 := k0 _ _ _ (by rw [hs1'.out]; omega) r0
    have s1 := k0 _ _ _ (by rw [hs1'.out]; omega) r1
    have sf : ∀ o, w3.frozen? ⟨w.heap.size + 1, o, none⟩ = false := fun o => by
      rw [World.frozen?_of_block (w := W1.alloc (.cells #[.int .u64 77, .int .u64 78] 33)) (w' := w3) (a := ⟨w.heap.size + 1, o, none⟩) (hg2.block (w.heap.size + 1) (by simp; rw [hs1'.out]; omega) (fun e => by cases e)), (below_new _).frozen (p := ⟨w.heap.size + 1, o, none⟩) (by rw [hs1'.out]; simp)]
      exact rf o
    have hB3 := Lib.hid ((hB1'.out.alloc (by rw [hs1'.out]; omega) (.cells #[.int .u64 77, .int .u64 78] 33)).grown hg2 (by simp; rw [hs1'.out]; omega) (fun b e => by cases e))
    obtain ⟨g, cap, hv2, hgb, hgl, hnc⟩ : ∃ g cap, v2 = .slice (some ⟨g, 0, none⟩) 2 cap ∧ w.heap.size + 2 ≤ g ∧ g < w3.heap.size ∧ 2 ≤ cap := by
      rcases ho2.2 with ⟨_, h0⟩ | ⟨g, cap, cur, hv, q1, q2, q3, q4, _⟩
      · cases h0
      · exact ⟨g, cap, hv, q1, (Array.getElem?_eq_some_iff.1 q2).1, q3⟩
    subst hv2
    have ho2' := Lib.hid ho2
    have hLc : (0 : Int) ≤ (cap : Int) := by omega
    clear ho2 hg2 k0 x0 x1 r0 r1 rf
    go_wp2
    go_region
    go_wp2
    try simp only [Exit.inBlock, Exit.then]
    refine bodyPost_ret (v := .agg #[.int .i64 N, .slice (some ⟨g, 0, none⟩) 0 cap]) ?_ rfl ⟨_, rfl, ⟨g, cap, rfl, ?_⟩, ?_⟩
    · rw [results_cell1 rfl]
      go_simp
    · exact ownsRow_base (by omega) ((ho2'.out.kept (grown_set (grown_set (grown_refl w3 (some (w.heap.size + 1))) _) _) (.inr (fun e => by have : g = w.heap.size + 1 := Option.some.inj e; omega))).drew)
    · exact Below.drew ((hB3.out.setCell (by simp) _).setCell (by simp) _)
  · obtain ⟨ad, cap, e, hc⟩ := h
    cases e
    have hc' := Lib.hid hc
    have hlen : Hid ((ws.map wv).length = ws.length) := by show _ = _; simp
    have hb0 : Hid (∀ j u, (ws.map wv)[j]? = some u → w.cell? (a.add j) = some u) := fun j u hj => by
      have hj' : j < ws.length := by
        have := (List.getElem?_eq_some_iff.1 hj).1
        rwa [List.length_map] at this
      obtain ⟨g, o, he, hcell⟩ := hc j hj'
      cases he
      have e1 : u = .int .u64 ((ws.getD j 0 : Nat) : Int) := by
        rw [List.getElem?_map, List.getElem?_eq_getElem hj', Option.map_some] at hj
        rw [← Option.some.inj hj, List.getD_eq_getElem?_getD, List.getElem?_eq_getElem hj']
        rfl
      rw [e1, Addr.add_lit]
      exact hcell
    clear hc
    have hcell : Hid (∀ u ∈ ws.map wv, u.oneCell' = true) := fun u hu => by
      obtain ⟨x, _, rfl⟩ := List.mem_map.1 hu
      rfl
    have hmap : Hid ((ws ++ [77, 78]).map wv = ws.map wv ++ [.int .u64 77, .int .u64 78]) := by show _ = _; rw [List.map_append]; rfl
    unfold Lent
    generalize hL : ws.length = L at *
    rw [hmap.out]
    generalize ws.map wv = xs at *
    obtain ⟨W1, hW1⟩ : ∃ W1, (w.alloc (.cells #[.int .i64 N, .slice (some a) L c] 27)).alloc (.cells #[.int .i64 0, .slice none 0 0] 27) = W1 := ⟨_, rfl⟩
    have hB1 : Below w.heap.size w W1 := by rw [← hW1]; exact (below_new _).alloc (by simp) _
    have hb1 : ∀ j u, xs[j]? = some u → W1.cell? (a.add j) = some u := fun j u hj => by
      have h1 := hb0.out j u hj
      have h2 := World.block_lt_of_cell? w _ h1
      rw [hB1.cell (p := a.add j) h2]
      exact h1
    have hs1 : W1.heap.size = w.heap.size + 2 := by rw [← hW1]; simp
    have hB1' := Lib.hid hB1
    have hb1' := Lib.hid hb1
    have hs1' := Lib.hid hs1
    have hW1' := Lib.hid hW1
    clear hB1 hb1 hs1 hW1
    go_enter Try.func13, Try.ntmps13
    go_wp2_with (first
      | (at_builtin; refine wpList_append_own _ rfl _ _ 25 rfl (w.heap.size + 2) 33 i0 _ 1 8 Try.underlying25 hi'.out hz0 hz1 hz2 rfl (by decide) (.slice none 0 0) 0 [] rfl (World.ownsRow_nil _ _ _ _) a L c xs rfl ?c1 ?c2 ?c3 ?c4 ?c5 ?c6 ?_)
      | go_in)
    case c1 => rw [hlen.out, Nat.mul_one]
    case c2 =>
      intro j u hj
      rw [hW1'.out]
      exact hb1'.out j u hj
    case c3 => exact hcell.out
    case c4 => unfold maxLen; omega
    case c5 => omega
    case c6 => simp
    intro v1 w2 ho1 hg1 _
    rw [hW1'.out] at hg1
    try simp only [List.nil_append, Nat.zero_add] at ho1
    have hs2 : w.heap.size + 2 ≤ w2.heap.size := by have := hg1.size; rw [hs1'.out] at this; exact this
    have x0 : w2.cell? ⟨w.heap.size, 0, none⟩ = some (.int .i64 N) := hg1.cell (by rw [← hW1'.out]; go_simp) (fun e => by cases e)
    have x1 : w2.cell? ⟨w.heap.size, 1, none⟩ = some (.slice (some a) L c) := hg1.cell (by rw [← hW1'.out]; go_simp) (fun e => by cases e)
    have r0 : w2.cell? ⟨w.heap.size + 1, 0, none⟩ = some (.int .i64 0) := hg1.cell (by rw [← hW1'.out]; go_simp) (fun e => by cases e)
    have r1 : w2.cell? ⟨w.heap.size + 1, 1, none⟩ = some (.slice none 0 0) := hg1.cell (by rw [← hW1'.out]; go_simp) (fun e => by cases e)
    have rf : ∀ o, w2.frozen? ⟨w.heap.size + 1, o, none⟩ = false := fun o => by
      rw [World.frozen?_of_block (w := W1) (w' := w2) (a := ⟨w.heap.size + 1, o, none⟩) (hg1.block (w.heap.size + 1) (by rw [hs1'.out]; omega) (fun e => by cases e)), ← hW1'.out]
      go_simp
    have hB2 := Lib.hid (hB1'.out.grown hg1 (by rw [hs1'.out]; omega) (fun k e => by cases e))
    have ho1' := Lib.hid ho1
    clear ho1 hg1
    go_wp2_with (first
      | (at_builtin; refine wpList_append_own _ rfl _ _ 25 rfl (w.heap.size + 2) 33 i0 _ 1 8 Try.underlying25 hi'.out hz0 hz1 hz2 rfl (by decide) v1 L xs rfl (ho1'.out.alloc _) ⟨w2.heap.size, 0, none⟩ 2 2 [.int .u64 77, .int .u64 78] rfl rfl ?d2 ?d3 ?d4 ?d5 ?d6 ?_)
      | go_in)
    case d2 =>
      intro j u hj
      match j, hj with
      | 0, hj => simp at hj; subst hj; simp [Addr.add]
      | 1, hj => simp at hj; subst hj; simp [Addr.add]
    case d3 => intro u hu; simp at hu; rcases hu with rfl | rfl <;> rfl
    case d4 => unfold maxLen; omega
    case d5 => omega
    case d6 => simp; omega
    intro v2 w3 ho2 hg2 _
    have hown1 : ∀ b, v1.ownBlock = some b → w.heap.size + 2 ≤ b := fun b hb => (ho1'.out.lt b hb).1
    have k0 : ∀ o u, w2.cell? ⟨w.heap.size, o, none⟩ = some u → w3.cell? ⟨w.heap.size, o, none⟩ = some u := fun o u h => hg2.cell (cell_kept (below_new _) h) (fun e => by have := hown1 w.heap.size e.symm; omega)
    have k1 : ∀ o u, w2.cell? ⟨w.heap.size + 1, o, none⟩ = some u → w3.cell? ⟨w.heap.size + 1, o, none⟩ = some u := fun o u h => hg2.cell (cell_kept (below_new _) h) (fun e => by have := hown1 (w.heap.size + 1) e.symm; omega)
    have y0 := k0 _ _ x0
    have y1 := k0 _ _ x1
    have s0 := k1 _ _ r0
    have s1 := k1 _ _ r1
    have sf : ∀ o, w3.frozen? ⟨w.heap.size + 1, o, none⟩ = false := fun o => by
      rw [World.frozen?_of_block (w := w2.alloc (.cells #[.int .u64 77, .int .u64 78] 33)) (w' := w3) (a := ⟨w.heap.size + 1, o, none⟩) (hg2.block (w.heap.size + 1) (by simp; omega) (fun e => by have := hown1 _ e.symm; omega)), (below_new _).frozen (p := ⟨w.heap.size + 1, o, none⟩) (by simp; omega)]
      exact rf o
    have hB3 := Lib.hid ((hB2.out.alloc (by omega) (.cells #[.int .u64 77, .int .u64 78] 33)).grown hg2 (by simp; omega) (fun b e => by have := hown1 b e; omega))
    obtain ⟨g, cap, cur, hv2, hgb, hgh, hnc, hcm, hrest⟩ : ∃ g cap cur, v2 = .slice (some ⟨g, 0, none⟩) (L + 2) cap ∧ w.heap.size + 2 ≤ g ∧ w3.heap[g]? = some (.cells cur 33 (0, 0)) ∧ L + 2 ≤ cap ∧ cap ≤ maxLen ∧ True := by
      rcases ho2.2 with ⟨_, h0⟩ | ⟨g, cap, cur, hv, q1, q2, q3, q4, _⟩
      · omega
      · exact ⟨g, cap, cur, hv, q1, q2, q3, q4, trivial⟩
    subst hv2
    have hgl : g < w3.heap.size := (Array.getElem?_eq_some_iff.1 hgh).1
    have ho2' := Lib.hid ho2
    have hLc : (L : Int) ≤ (cap : Int) := by omega
    clear ho2 hg2 k0 k1 x0 x1 r0 r1 rf hgh hown1
    go_wp2
    go_region
    go_wp2
    try simp only [Exit.inBlock, Exit.then]
    refine bodyPost_ret (v := .agg #[.int .i64 N, .slice (some ⟨g, 0, none⟩) L cap]) ?_ rfl ⟨_, rfl, ⟨g, cap, rfl, ?_⟩, ?_⟩
    · rw [results_cell1 rfl]
      go_simp
    · exact ownsRow_base (by omega) ((ho2'.out.kept (grown_set (grown_set (grown_refl w3 (some (w.heap.size + 1))) _) _) (.inr (fun e => by have : g = w.heap.size + 1 := Option.some.inj e; omega))).drew)
    · exact Below.drew ((hB3.out.setCell (by simp) _).setCell (by simp) _)
end Go.Proofs.Ytigghbehnnghnaa
