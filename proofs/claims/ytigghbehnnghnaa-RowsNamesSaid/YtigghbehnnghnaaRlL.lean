import Derived.Test.YtigghbehnnghnaaRlK
namespace Go.Proofs.Ytigghbehnnghnaa
open Go.RowKit Go.RowBits Go.MapRaw Go.Maps
set_option linter.unusedSimpArgs false
set_option linter.unusedVariables false

theorem info53' : (Try.prog.info? 53).map (fun i => (i.zero, i.size, i.bytes)) = some (some (.slice none 0 0), 1, 24) := by kernel_rfl
theorem ne_blocks {W : World} {g g' : Nat} {o o' : Obj} (h : W.heap[g]? = some o) (h' : W.heap[g']? = some o') (hne : o ≠ o') : g ≠ g' := fun e => hne (by rw [e, h'] at h; injection h with h; exact h.symm)
theorem numL_snoc (rows : List (List Nat)) (r : List Nat) : numL (rows ++ [r]) = numL rows ++ [(strv r, .int .i64 (rows.length : Int))] := by
  unfold numL
  rw [List.length_append, List.length_singleton, List.range_succ, List.map_append]
  congr 1
  · apply List.map_congr_left
    intro i hi
    have hi' := List.mem_range.1 hi
    simp [List.getElem?_append_left hi']
  · simp
section
variable {p : BP} {B : Nat} {W W' : World} {bk bn bw : Nat} {kv : Value} {ks : List Value} {rows : List (List Nat)} {wk : List ((Nat × Nat × Nat) × Nat)}
set_option maxRecDepth 20000 in
set_option maxHeartbeats 4000000 in
theorem number50_new (h : BookAt p B W bk bn bw kv ks rows wk) (hn : 1 ≤ p.n ∧ p.n ≤ 65536) {r : List Nat} (hr : r.length = p.n) (hr2 : ∀ j, r.getD j 0 < 2) (hno : r ∉ rows) (hfull : rows.length < p.most) {v : Value} (hv : HasY W v r) : Calls Try.prog 50 #[.pointer (some ⟨bk, 0, none⟩), v] W fun e w' =>
    e = .returned (.tuple #[.int .i64 (rows.length : Int), .int .i64 0]) ∧ (∃ kv' ks', BookAt p B w' bk bn bw kv' ks' (rows ++ [r]) wk) ∧ YF B W w' := by
  obtain ⟨i0, hi, hz0, hz1, hz2⟩ := info_parts info53'
  have hi' := Lib.hid hi
  clear hi
  obtain ⟨lk, hlk⟩ := keyOfS r (by omega)
  have hnk : ∀ q ∈ numL rows, q.1 ≠ strv r := fun q hq e => by
    obtain ⟨i, hi, rfl⟩ := List.mem_map.1 hq
    have hi' := List.mem_range.1 hi
    have hr := strv_inj (h.lt256 hi') (mem_lt hr2) e
    refine hno ?_
    rw [← hr]
    simp [hi']
  have hlook : (Instr.lookup 56 (.map (some bn)) (strv r) true).run Try.prog W.drew = .ok (.tuple #[.int .i64 0, .bool false]) W.drew :=
    (h.num.of_block (w' := W.drew) rfl).miss keyS Try.underlying56 (zero3 _) hlk hnk true
  have hconv0 : Hid (∀ W', HasY W' v r → (convert 53 9 v).run Try.prog W' = .ok (strv r) W') := fun W' hv' => conv_str hv' (mem_lt hr2) (by omega)
  have hconv := hconv0.out W.drew (hv.kept (Below.refl _ _).drew)
  have c18 : W.cell? ⟨bk, 18, none⟩ = some (.map (some bn)) := h.cell rfl
  obtain ⟨ad', cap', hkv⟩ := h.shape
  have hH := Lib.hid h
  have hHv := Lib.hid hv
  have hHk := Lib.hid hkv
  have c19 : W.cell? ⟨bk, 19, none⟩ = some (.slice ad' rows.length cap') := by rw [← hkv]; exact h.cell rfl
  have c17 : W.cell? ⟨bk, 17, none⟩ = some (.int .i64 (p.most : Int)) := h.cell rfl
  have hfI : (rows.length : Int) < (p.most : Int) := by omega
  have hvs : ∃ ad cap, v = .slice ad r.length cap := by obtain ⟨ad, cap, e, _⟩ := hv; exact ⟨ad, cap, e⟩
  obtain ⟨ad, cap, rfl⟩ := hvs
  have hB : Hid (Below W.heap.size W W.drew.drew) := (Below.refl _ _).drew.drew
  have hR6 : rows.length ≤ 65536 := by have := h.m1; omega
  have hrl := Lib.hid hr
  have hnk' := Lib.hid hnk
  have hlk' := Lib.hid hlk
  have hr2' := Lib.hid hr2
  have hno' := Lib.hid hno
  have hbk : bk < W.heap.size := World.block_lt_of_cell? W _ c18
  have hmk := fun m => run_make_row' (P := Try.prog) 53 5 (.int .u8 0) 1 Try.underlying53 info5' rfl .i64 .i64 m
  have hmkn : ∀ W, (Instr.makeSlice 53 (.int .i64 (r.length : Int)) (.int .i64 (r.length : Int))).run Try.prog W = .ok (.slice (some ⟨W.heap.size, 0, none⟩) r.length r.length) (W.alloc (.cells (madeCells #[.int .u8 0] r.length) 5)) := fun W => hmk r.length (by omega) (by omega) W
  have d19 : W.drew.cell? ⟨bk, 19, none⟩ = some (.slice ad' rows.length cap') := c19
  have d17 : W.drew.cell? ⟨bk, 17, none⟩ = some (.int .i64 (p.most : Int)) := c17
  have e19 : W.drew.drew.cell? ⟨bk, 19, none⟩ = some (.slice ad' rows.length cap') := c19
  have hz : Hid (W.drew.drew.heap.size = W.heap.size) := rfl
  have hHv2 : Hid (HasY W.drew.drew (.slice ad r.length cap) r) := hv.kept hB.out
  clear h hlk hr hno hr2 hnk hv hmk hkv
  go_enter Try.func50, Try.ntmps50
  go_upto_region 1 with fail
  go_still (by kernel_rfl)
  change Exit.then _ _ Exit.normal _ W.drew
  clear hlook hconv c18 c19 c17
  go_upto_region 4 with fail
  generalize hW1 : W.drew = W1 at *
  have hW1' := Lib.hid hW1
  clear hW1
  go_still (by kernel_rfl)
  change Exit.then _ _ Exit.normal _ W1.drew
  clear d19 d17
  generalize W1.drew = W2 at *
  have hY2 := Lib.hid (YBlk.new W2 _ (List.replicate r.length 0) (made_bytes r.length))
  have hBn : Hid (Below W2.heap.size W2 (W2.alloc (.cells (madeCells #[.int .u8 0] r.length) 5))) := below_new _
  go_wp2_with (first
    | (refine wpList_copy_words rfl _ _ 53 53 rfl 5 Try.underlying53 size5 ad r.length r.length cap W2.heap.size rfl rfl ((List.replicate r.length 0).map yv) 5 hY2.out (r.map yv) (by rw [List.length_map]) (by simp) ?q4 ?q5 ?_)
    | go_in)
  case q4 =>
    intro hp
    obtain ⟨ad0, cp0, e0, hc0⟩ := hHv2.out
    injection e0 with e0 _ _
    obtain ⟨g, o, hg, _⟩ := hc0 0 hp
    refine ⟨⟨g, o, none⟩, by rw [e0, hg], fun j u hj => ?_⟩
    have hj' : j < r.length := by
      have := (List.getElem?_eq_some_iff.1 hj).1
      simpa using this
    have e1 : u = .int .u8 ((r.getD j 0 : Nat) : Int) := by
      rw [List.getElem?_map, List.getElem?_eq_getElem hj'] at hj
      simp [hj', yv] at hj ⊢
      exact hj.symm
    subst e1
    obtain ⟨g', o', hg', c⟩ := hc0 j hj'
    rw [hg] at hg'
    cases hg'
    rw [Addr.add_lit]
    exact cell_kept hBn.out c
  case q5 => intro u hu; obtain ⟨x, _, rfl⟩ := List.mem_map.1 hu; rfl
  intro w4 hb4 hg4
  have hY4 : Hid (YBlk w4 W2.heap.size r) := hb4
  have hB4 := Below.grown hBn.out hg4 (by simp) (fun k e => by injection e with e; omega)
  have hB04 := Lib.hid (below_then hB.out hB4 (by rw [hz.out]; exact Nat.le_refl _))
  have H4 := Lib.hid (hH.out.kept' hB04.out)
  have hconv4 := hconv0.out w4.drew ((hHv.out.kept hB04.out).kept (Below.refl _ _).drew)
  obtain ⟨w5, hrun, hM5, hG5⟩ := (H4.out.num.of_block (w' := w4.drew) rfl).put keyS Try.underlying56 hlk'.out (.int .i64 (rows.length : Int)) hnk'.out
  have hM5' := Lib.hid hM5
  have hG5' : Hid (w4.grownBy w5 (some bn)) := ⟨hG5.os, hG5.tape, hG5.output, hG5.size, hG5.block⟩
  have c18 : w4.cell? ⟨bk, 18, none⟩ = some (.map (some bn)) := H4.out.cell rfl
  have hkb : bk ≠ bn := fun e => by
    obtain ⟨es, ck, hb, _⟩ := H4.out.num
    exact ne_blocks H4.out.blk hb (by simp) e
  have hgz5 : W2.heap.size ≤ w4.heap.size := hB4.size
  have c19 : w5.cell? ⟨bk, 19, none⟩ = some (.slice ad' rows.length cap') := by
    refine hG5'.out.cell (a := ⟨bk, 19, none⟩) ?_ (fun e => hkb (by injection e))
    rw [← hHk.out]
    exact H4.out.cell rfl
  clear hb4 hg4 hB4 hM5 hG5
  go_upto_region 9 with fail
  go_still_tail 7, (by kernel_rfl)
  change wpList _ _ _ _ _ w4.drew
  generalize w4.drew = w45 at *
  have hknk : kv.ownBlock = none ∨ kv.ownBlock ≠ some bn := by
    rcases H4.out.kept.2 with ⟨e, _⟩ | ⟨g, cp, cur, e, _, hg, _⟩
    · exact .inl (by rw [e]; rfl)
    · refine .inr fun e' => ?_
      obtain ⟨es, ck, hb, _⟩ := H4.out.num
      rw [e] at e'
      injection e' with e'
      exact ne_blocks hg hb (by simp) e'
  have hO5 : Hid (w5.ownsRow B 53 1 (.slice ad' rows.length cap') rows.length ks) := by
    have := H4.out.kept.kept hG5'.out hknk
    rw [hHk.out] at this
    exact this
  have hz5 : w4.heap.size ≤ w5.heap.size := hG5'.out.size
  have hBw : B ≤ w4.heap.size := by have := H4.out.Bk; have := (Array.getElem?_eq_some_iff.1 H4.out.blk).1; omega
  have fz5 : ∀ o, w5.frozen? ⟨bk, o, none⟩ = false := fun o => frozen_of_row w5 bk o _ 60 ((hG5'.out.block bk (Array.getElem?_eq_some_iff.1 H4.out.blk).1 (fun e => hkb (by injection e))).trans H4.out.blk)
  clear hknk
  go_wp2_with (first
    | (at_builtin; refine wpList_append_own _ rfl _ _ 57 rfl B 53 i0 _ 1 24 Try.underlying57 hi'.out hz0 hz1 hz2 rfl (by decide) (.slice ad' rows.length cap') rows.length ks rfl (hO5.out.alloc _) ⟨w5.heap.size, 0, none⟩ 1 1 [.slice (some ⟨W2.heap.size, 0, none⟩) r.length r.length] rfl rfl ?c1 ?c2 ?c3 ?c4 ?c5 ?_)
    | go_in)
  case c1 =>
    intro j u hj
    match j, hj with
    | 0, hj => simp at hj; subst hj; simp [Addr.add]
  case c2 => intro u hu; simp at hu; subst hu; rfl
  case c3 => unfold maxLen; omega
  case c4 => omega
  case c5 => simp; omega
  intro v' w6 hown6 hgrow6 _
  have hk6 : ∀ b, b < w4.heap.size → b ≠ bn → (Value.slice ad' rows.length cap').ownBlock ≠ some b → w6.heap[b]? = w4.heap[b]? := fun b hb h1 h2 =>
    ((hgrow6.block b (by simp; omega) (fun e => h2 e.symm)).trans ((below_new (w := w5) _).block b (by omega))).trans (hG5'.out.block b hb (fun e => h1 (by injection e)))
  have hkv : ∀ b o, w4.heap[b]? = some o → (∀ cur, o ≠ .cells cur 53 (0, 0)) → (Value.slice ad' rows.length cap').ownBlock ≠ some b := fun b o hb ho e => by
    rw [← hHk.out] at e
    rcases H4.out.kept.2 with ⟨e2, _⟩ | ⟨g, cp, cur, e2, _, hg, _⟩
    · rw [e2] at e; cases e
    · rw [e2] at e
      injection e with e
      have e : g = b := e
      subst e
      rw [hb] at hg
      injection hg with hg
      exact ho cur hg
  have lbk := (Array.getElem?_eq_some_iff.1 H4.out.blk).1
  have blk6 : w6.heap[bk]? = some (.cells (bookCells p bn (.slice ad' rows.length cap') bw) 60 (0, 0)) := by
    rw [hk6 bk lbk hkb (hkv bk _ H4.out.blk (fun cur e => by injection e with _ e _; cases e)), ← hHk.out]
    exact H4.out.blk
  have x19 : w6.cell? ⟨bk, 19, none⟩ = some (.slice ad' rows.length cap') := by rw [cell_of_row w6 bk 19 _ 60 (0, 0) blk6]; rfl
  have f19 : ∀ o, w6.frozen? ⟨bk, o, none⟩ = false := fun o => frozen_of_row w6 bk o _ 60 blk6
  have hC6 : ∀ (g : Nat) (cs : Array Value) (T : Nat) (fz : Nat × Nat), w4.heap[g]? = some (.cells cs T fz) → T ≠ 53 → T ≠ 60 → (w6.setCell ⟨bk, 19, none⟩ v').heap[g]? = some (.cells cs T fz) := fun g cs T fz hg h53 h60 => by
    have h1 : g ≠ bn := fun e => by
      obtain ⟨es, ck, hb, _⟩ := H4.out.num
      exact ne_blocks hg hb (by simp) e
    have h2 : g ≠ bk := fun e => ne_blocks hg H4.out.blk (fun e => by injection e with _ e _; exact h60 e) e
    have : w6.heap[g]? = some (.cells cs T fz) := (hk6 g (Array.getElem?_eq_some_iff.1 hg).1 h1 (hkv g _ hg (fun cur e => by injection e with _ e _; exact h53 e))).trans hg
    exact (heap_setCell_other w6 ⟨bk, 19, none⟩ g v' h2).trans this
  have hY6 : ∀ g ws, YBlk w4 g ws → YBlk (w6.setCell ⟨bk, 19, none⟩ v') g ws := fun g ws hg => hC6 g _ _ _ hg (by decide) (by decide)
  have hB6 : Below B W (w6.setCell ⟨bk, 19, none⟩ v') := by
    have q1 : Below B W w4 := hB04.out.mono (by have := hH.out.Bk; omega)
    have q2 := Below.grown q1 hG5'.out hBw (fun k e => by injection e with e; subst e; exact hH.out.Bn)
    have q3 := q2.alloc (by omega) (.cells #[.slice (some ⟨W2.heap.size, 0, none⟩) r.length r.length] 53)
    have q4 := Below.grown q3 hgrow6 (by simp; omega) (fun k e => (hO5.out.lt k e).1)
    exact q4.setCell hH.out.Bk _
  have hown7 : (w6.setCell ⟨bk, 19, none⟩ v').ownsRow B 53 1 v' (rows.length + 1) (ks ++ [.slice (some ⟨W2.heap.size, 0, none⟩) r.length r.length]) := by
    rcases hown6.2 with ⟨e2, hz⟩ | ⟨g, cp, cur, e2, hgB, hg, q1, q2, q3, q4⟩
    · omega
    · refine ⟨hown6.1, .inr ⟨g, cp, cur, e2, hgB, ?_, q1, q2, q3, q4⟩⟩
      rw [heap_setCell_other w6 ⟨bk, 19, none⟩ g v' (ne_blocks hg blk6 (fun e => by injection e with _ e _; cases e))]
      exact hg
  have hmap : ∀ kk b l, b ≠ bk → MapIs Try.prog kk w5 b l → MapIs Try.prog kk (w6.setCell ⟨bk, 19, none⟩ v') b l := fun kk b l hne hm => by
    have hlt := hm.lt
    obtain ⟨es, ck, hb, q1, q2⟩ := hm
    refine ⟨es, ck, ?_, q1, q2⟩
    rw [heap_setCell_other w6 ⟨bk, 19, none⟩ b v' hne, hgrow6.block b (by simp; omega) (fun e => ?_), (below_new (w := w5) _).block b hlt]
    · exact hb
    · rcases hO5.out.2 with ⟨e2, _⟩ | ⟨g, cp, cur, e2, _, hg, _⟩
      · rw [e2] at e; cases e
      · rw [e2] at e
        injection e with e
        exact ne_blocks hb hg (by simp) e
  have hbw : bw ≠ bk := fun e => by
    obtain ⟨es, ck, hb, _⟩ := H4.out.wrk
    exact ne_blocks hb H4.out.blk (by simp) e
  have hwrk5 : MapIs Try.prog 104 w5 bw (wrkL wk) := H4.out.wrk.grown hG5'.out (fun e => H4.out.nw (by injection e with e; exact e.symm))
  have hfin : BookAt p B (w6.setCell ⟨bk, 19, none⟩ v') bk bn bw v' (ks ++ [.slice (some ⟨W2.heap.size, 0, none⟩) r.length r.length]) (rows ++ [r]) wk := by
    have hkl : ks.length = rows.length := by have := hO5.out.1; omega
    refine ⟨?_, ?_, hmap _ _ _ hbw hwrk5, H4.out.nw, H4.out.Bk, H4.out.Bn, H4.out.Bw, by rw [List.length_append]; exact hown7, ?_, ?_, ?_, ?_, ?_, H4.out.m1, ?_⟩
    · have := heap_setCell_same w6 bk 19 _ 60 v' blk6
      exact this
    · rw [numL_snoc]
      exact hmap _ _ _ (Ne.symm hkb) hM5'.out
    · intro i hi
      rw [List.length_append] at hi
      by_cases hlt : i < rows.length
      · obtain ⟨g, h1, h2⟩ := H4.out.row i hlt
        refine ⟨g, by rw [List.getElem?_append_left (by omega)]; exact h1, ?_⟩
        have := hY6 g _ h2
        rw [show (rows ++ [r]).getD i [] = rows.getD i [] from by simp [List.getElem?_append_left hlt]]
        exact this
      · obtain rfl : i = rows.length := by simp at hi; omega
        refine ⟨W2.heap.size, by rw [List.getElem?_append_right (by omega), hkl]; simp [hrl.out], ?_⟩
        rw [show (rows ++ [r]).getD rows.length [] = r from by simp]
        exact hY6 _ _ hY4.out
    · intro i hi
      by_cases hlt : i < rows.length
      · rw [show (rows ++ [r]).getD i [] = rows.getD i [] from by simp [List.getElem?_append_left hlt]]
        exact H4.out.len i hlt
      · obtain rfl : i = rows.length := by simp at hi; omega
        rw [show (rows ++ [r]).getD rows.length [] = r from by simp]
        exact hrl.out
    · intro i j hi
      by_cases hlt : i < rows.length
      · rw [show (rows ++ [r]).getD i [] = rows.getD i [] from by simp [List.getElem?_append_left hlt]]
        exact H4.out.two i j hlt
      · obtain rfl : i = rows.length := by simp at hi; omega
        rw [show (rows ++ [r]).getD rows.length [] = r from by simp]
        exact hr2'.out j
    · rw [List.nodup_append]
      exact ⟨H4.out.nodup, by simp, fun a ha b hb e => hno'.out (by simp at hb; rw [← hb, ← e]; exact ha)⟩
    · rw [List.length_append]; simp; omega
    · intro x hx
      have := H4.out.wkin x hx
      rw [List.length_append]
      simp
      omega
  have hF := Lib.hid hfin
  have hYF : Hid (YF B W (w6.setCell ⟨bk, 19, none⟩ v')) := ⟨hB6, fun g cs T fz hg h53 h60 => hC6 g cs T fz ((hB04.out.block g (Array.getElem?_eq_some_iff.1 hg).1).trans hg) h53 h60⟩
  obtain ⟨ad7, cap7, hsh⟩ := own_shape hown6
  clear hk6 hkv hY6 hC6 hB6 hown7 hmap hwrk5 hfin hown6 hgrow6 blk6
  subst hsh
  go_wp2
  go_ret2
  exact ⟨rfl, ⟨_, _, hF.out⟩, hYF.out⟩
end
end Go.Proofs.Ytigghbehnnghnaa
