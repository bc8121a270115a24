import Derived.Test.YtigghbehnnghnaaRlPx
import Derived.StillTailTactics
import Derived.Test.YtigghbehnnghnaaRlG
namespace Go.Proofs.Ytigghbehnnghnaa
open Go.RowKit Go.RowBits Go.MapRaw Go.Maps
set_option linter.unusedSimpArgs false
set_option linter.unusedVariables false

def t3 {α : Type} (x y z : α) : Nat → α
  | 0 => x
  | 1 => y
  | _ => z
section
variable {p : BP} {B : Nat} {W W' : World} {bk bn bw : Nat} {kv : Value} {ks : List Value} {rows : List (List Nat)} {wk : List ((Nat × Nat × Nat) × Nat)}
set_option maxRecDepth 20000 in
set_option maxHeartbeats 4000000 in
theorem next22_miss (S : Strip p.h p.born p.stay p.k (p.n : Int)) (h : BookAt p B W bk bn bw kv ks rows wk) (hw : WkOk p rows wk) {a b c : Nat} (ha : a < rows.length) (hb' : b < rows.length) (hc : c < rows.length) (hno : ∀ x ∈ wk, x.1 ≠ (a, b, c)) (hn : 1 ≤ p.n ∧ p.n ≤ 65536) : Calls Try.prog 22 #[.pointer (some ⟨bk, 0, none⟩), .int .i64 (a : Int), .int .i64 (b : Int), .int .i64 (c : Int)] W fun e w' =>
    e = .returned (.tuple #[.int .i64 (idOf rows p.most (nextRow p rows a b c) : Int), .int .i64 (errOf rows p.most (nextRow p rows a b c))]) ∧ (∃ wk', Book p B w' bk bn bw (after rows p.most (nextRow p rows a b c)) wk' ∧ WkOk p (after rows p.most (nextRow p rows a b c)) wk') ∧ YF B W w' := by
  have hm1 := h.m1
  have hmo := h.most
  obtain ⟨lk, hlk⟩ := keyOfA a b c (by omega) (by omega) (by omega)
  have hnk : Hid (∀ q ∈ wrkL wk, q.1 ≠ idv a b c) := fun q hq e => by
    obtain ⟨y, hy, rfl⟩ := List.mem_map.1 hq
    obtain ⟨q1, q2, q3⟩ := idv_inj e
    exact hno y hy (by rw [← q1, ← q2, ← q3])
  have hlook : Hid (∀ W', MapIs Try.prog 104 W' bw (wrkL wk) → (Instr.lookup 58 (.map (some bw)) (idv a b c) true).run Try.prog W' = .ok (.tuple #[.int .i64 0, .bool false]) W') := fun W' hM =>
    hM.miss keyA Try.underlying58 (zero3 _) hlk hnk.out true
  have hH := Lib.hid h
  have hlk' := Lib.hid hlk
  have hw' := Lib.hid hw
  have K1 := Lib.hid (none51 h)
  have K2 := Lib.hid (has52 h (id := (a : Int)) ⟨by omega, by omega⟩)
  have K3 := Lib.hid (has52 h (id := (b : Int)) ⟨by omega, by omega⟩)
  have K4 := Lib.hid (has52 h (id := (c : Int)) ⟨by omega, by omega⟩)
  obtain ⟨W1, hW1⟩ : ∃ W1, W1 = W.alloc (.cells #[.int .i64 (a : Int), .int .i64 (b : Int), .int .i64 (c : Int)] 104) := ⟨_, rfl⟩
  have hB1 : Below W.heap.size W W1 := by rw [hW1]; exact below_new _
  have H1 := h.kept' hB1
  have hlook1 := hlook.out W1.drew (H1.wrk.of_block rfl)
  have c20 : W1.cell? ⟨bk, 20, none⟩ = some (.map (some bw)) := H1.cell rfl
  have q0 : W1.cell? ⟨W.heap.size, 0, none⟩ = some (.int .i64 (a : Int)) := by rw [hW1]; go_simp
  have q1 : W1.cell? ⟨W.heap.size, 1, none⟩ = some (.int .i64 (b : Int)) := by rw [hW1]; go_simp
  have q2 : W1.cell? ⟨W.heap.size, 2, none⟩ = some (.int .i64 (c : Int)) := by rw [hW1]; go_simp
  have hB2 : Hid (Below W.heap.size W W1.drew) := hB1.drew
  have H2 : Hid (BookAt p B W1.drew bk bn bw kv ks rows wk) := h.kept' hB2.out
  have hask : Hid (W1.drew.heap[W.heap.size]? = some (.cells #[.int .i64 (a : Int), .int .i64 (b : Int), .int .i64 (c : Int)] 104 (0, 0))) := by
    show W1.heap[W.heap.size]? = _
    rw [hW1]; exact heap_alloc_new W _
  have s0 : W1.drew.cell? ⟨W.heap.size, 0, none⟩ = some (.int .i64 (a : Int)) := q0
  have s1 : W1.drew.cell? ⟨W.heap.size, 1, none⟩ = some (.int .i64 (b : Int)) := q1
  have s2 : W1.drew.cell? ⟨W.heap.size, 2, none⟩ = some (.int .i64 (c : Int)) := q2
  have hW1' := Lib.hid hW1
  obtain ⟨gk, cap, ga, rfl, ka, ya⟩ := H2.out.at ha
  obtain ⟨gk', cap', gb, e2, kb, yb⟩ := H2.out.at hb'
  cases e2
  obtain ⟨gk', cap', gc, e2, kc, yc⟩ := H2.out.at hc
  cases e2
  have b0 : W1.drew.cell? ⟨bk, 0, none⟩ = some (.int .u8 1) := H2.out.cell rfl
  have b1 : W1.drew.cell? ⟨bk, 1, none⟩ = some (.int .u8 p.h) := H2.out.cell rfl
  have b2 : W1.drew.cell? ⟨bk, 2, none⟩ = some (.int .u16 (p.born : Int)) := H2.out.cell rfl
  have b3 : W1.drew.cell? ⟨bk, 3, none⟩ = some (.int .u16 (p.stay : Int)) := H2.out.cell rfl
  have b4 : W1.drew.cell? ⟨bk, 4, none⟩ = some (.int .i64 2) := H2.out.cell rfl
  have b5 : W1.drew.cell? ⟨bk, 5, none⟩ = some (.string ⟨#[]⟩) := H2.out.cell rfl
  have b6 : W1.drew.cell? ⟨bk, 6, none⟩ = some (.int .i64 0) := H2.out.cell rfl
  have b7 : W1.drew.cell? ⟨bk, 7, none⟩ = some (.int .u8 0) := H2.out.cell rfl
  have b8 : W1.drew.cell? ⟨bk, 8, none⟩ = some (.int .u8 0) := H2.out.cell rfl
  have b9 : W1.drew.cell? ⟨bk, 9, none⟩ = some (.slice none 0 0) := H2.out.cell rfl
  have b10 : W1.drew.cell? ⟨bk, 10, none⟩ = some (.slice none 0 0) := H2.out.cell rfl
  have b11 : W1.drew.cell? ⟨bk, 11, none⟩ = some (.int .u8 p.k) := H2.out.cell rfl
  have b12 : W1.drew.cell? ⟨bk, 12, none⟩ = some (.int .i64 (p.n : Int)) := H2.out.cell rfl
  have b13 : W1.drew.cell? ⟨bk, 13, none⟩ = some (.int .i64 0) := H2.out.cell rfl
  have b14 : W1.drew.cell? ⟨bk, 14, none⟩ = some (.int .u8 0) := H2.out.cell rfl
  have b15 : W1.drew.cell? ⟨bk, 15, none⟩ = some (.int .i64 0) := H2.out.cell rfl
  have b19 : W1.drew.cell? ⟨bk, 19, none⟩ = some (.slice (some ⟨gk, 0, none⟩) rows.length cap) := H2.out.cell rfl
  have haI : (a : Int) < (rows.length : Int) := by omega
  have hbI : (b : Int) < (rows.length : Int) := by omega
  have hcI : (c : Int) < (rows.length : Int) := by omega
  have KL := Lib.hid (fun W' (hb : Below W1.drew.heap.size W1.drew W') => line27 (w := W') (t3 (some ⟨ga, 0, none⟩) (some ⟨gb, 0, none⟩) (some ⟨gc, 0, none⟩)) (fun _ => p.n) S (R := sel3 rows a b c) (fun i hi => by
    match i, hi with
    | 0, _ => have := (ya.kept hb).has (cap := p.n); rw [H2.out.len a ha] at this; exact this
    | 1, _ => have := (yb.kept hb).has (cap := p.n); rw [H2.out.len b hb'] at this; exact this
    | 2, _ => have := (yc.kept hb).has (cap := p.n); rw [H2.out.len c hc] at this; exact this) (fun i hi => by
    match i, hi with
    | 0, _ => exact H2.out.len a ha
    | 1, _ => exact H2.out.len b hb'
    | 2, _ => exact H2.out.len c hc) (fun i j hi => by
    match i, hi with
    | 0, _ => exact H2.out.two a j ha
    | 1, _ => exact H2.out.two b j hb'
    | 2, _ => exact H2.out.two c j hc))
  clear h hw hlk hB1 H1 hW1 hlook hno ya yb yc
  go_enter Try.func22, Try.ntmps22
  go_wp2_with fail
  refine (K1.out).mono ?_
  rintro e w' ⟨rfl, rfl⟩
  go_wp2_with fail
  refine (K2.out).mono ?_
  rintro e w' ⟨rfl, rfl⟩
  go_wp2_with fail
  refine (K3.out).mono ?_
  rintro e w' ⟨rfl, rfl⟩
  go_wp2_with fail
  refine (K4.out).mono ?_
  rintro e w' ⟨rfl, rfl⟩
  go_upto_region 6 with fail
  rw [← hW1'.out]
  go_still (by kernel_rfl)
  change Exit.then _ _ Exit.normal _ W1.drew
  clear q0 q1 q2 c20 hlook1
  generalize W1.drew = W2 at *
  have hBd : Hid (Below W2.heap.size W2 W2.drew) := (Below.refl _ _).drew
  go_upto_region 9 with fail
  go_region_held3 (fun w' => w'.cell? ⟨bk, 0, none⟩ = some (.int .u8 1) ∧ w'.cell? ⟨bk, 1, none⟩ = some (.int .u8 p.h) ∧ w'.cell? ⟨bk, 2, none⟩ = some (.int .u16 (p.born : Int)) ∧ w'.cell? ⟨bk, 3, none⟩ = some (.int .u16 (p.stay : Int)) ∧ w'.cell? ⟨bk, 4, none⟩ = some (.int .i64 2) ∧ w'.cell? ⟨bk, 5, none⟩ = some (.string ⟨#[]⟩) ∧ w'.cell? ⟨bk, 6, none⟩ = some (.int .i64 0) ∧ w'.cell? ⟨bk, 7, none⟩ = some (.int .u8 0) ∧ w'.cell? ⟨bk, 8, none⟩ = some (.int .u8 0) ∧ w'.cell? ⟨bk, 9, none⟩ = some (.slice none 0 0) ∧ w'.cell? ⟨bk, 10, none⟩ = some (.slice none 0 0) ∧ w'.cell? ⟨bk, 11, none⟩ = some (.int .u8 p.k) ∧ w'.cell? ⟨bk, 12, none⟩ = some (.int .i64 (p.n : Int)) ∧ w'.cell? ⟨bk, 13, none⟩ = some (.int .i64 0) ∧ w'.cell? ⟨bk, 14, none⟩ = some (.int .u8 0) ∧ w'.cell? ⟨bk, 15, none⟩ = some (.int .i64 0) ∧ w'.cell? ⟨bk, 19, none⟩ = some (.slice (some ⟨gk, 0, none⟩) rows.length cap) ∧ w'.cell? ⟨gk, a, none⟩ = some (.slice (some ⟨ga, 0, none⟩) p.n p.n) ∧ w'.cell? ⟨gk, b, none⟩ = some (.slice (some ⟨gb, 0, none⟩) p.n p.n) ∧ w'.cell? ⟨gk, c, none⟩ = some (.slice (some ⟨gc, 0, none⟩) p.n p.n)) (first | exact ⟨b0, b1, b2, b3, b4, b5, b6, b7, b8, b9, b10, b11, b12, b13, b14, b15, b19, ka, kb, kc⟩ | exact ⟨cell_kept hb6 b0, cell_kept hb6 b1, cell_kept hb6 b2, cell_kept hb6 b3, cell_kept hb6 b4, cell_kept hb6 b5, cell_kept hb6 b6, cell_kept hb6 b7, cell_kept hb6 b8, cell_kept hb6 b9, cell_kept hb6 b10, cell_kept hb6 b11, cell_kept hb6 b12, cell_kept hb6 b13, cell_kept hb6 b14, cell_kept hb6 b15, cell_kept hb6 b19, cell_kept hb6 ka, cell_kept hb6 kb, cell_kept hb6 kc⟩) (first | (go_at_call 27; refine (KL.out _ hBd.out).mono ?_; rintro e w5 ⟨g, rfl, hg, hY, hb5⟩; have hb6 := below_then hBd.out hb5 (Nat.le_refl _)))
  have H5 := Lib.hid (H2.out.kept' hb6)
  have hY' : Hid (YBlk w5 g (nextRow p rows a b c)) := hY
  have hv5 : HasY w5 (.slice (some ⟨g, 0, none⟩) p.n p.n) (nextRow p rows a b c) := by
    have := hY'.out.has (cap := p.n)
    rw [show (nextRow p rows a b c).length = p.n from winL_len ..] at this
    exact this
  have KN := Lib.hid (number50 ⟨_, _, H5.out⟩ hn (show (nextRow p rows a b c).length = p.n from winL_len ..) (fun j => winL_lt _ _ _ _ _ _ j) hv5)
  have hB5 := Lib.hid (below_then hB2.out hb6 (by have := hB2.out.size; exact this))
  have hask5 := Lib.hid ((hb6.block _ (Array.getElem?_eq_some_iff.1 hask.out).1).trans hask.out)
  have hBs : B ≤ w'.heap.size := by have := hH.out.Bk; have := (Array.getElem?_eq_some_iff.1 hH.out.blk).1; omega
  clear b0 b1 b2 b3 b4 b5 b6 b7 b8 b9 b10 b11 b12 b13 b14 b15 b19 ka kb kc hb5 hb6 hY hv5 s0 s1 s2
  go_wp2_with fail
  refine (KN.out).mono ?_
  rintro e w6 ⟨rfl, hbk, hyf⟩
  have hYF : Hid (YF B w' w6) := (YF.of_below hB5.out hBs).trans hyf
  have hask6 := hyf.2 _ _ _ _ hask5.out (by decide) (by decide)
  by_cases hE : errOf rows p.most (nextRow p rows a b c) = 0
  · obtain ⟨kv6, ks6, B6⟩ := hbk
    have B6' := Lib.hid B6
    obtain ⟨w7, hrun, hM7, hG7⟩ := (B6.wrk.of_block (w' := w6.drew) rfl).put keyA Try.underlying58 hlk'.out (.int .i64 (idOf rows p.most (nextRow p rows a b c) : Int)) hnk.out
    have hG7' : Hid (w6.grownBy w7 (some bw)) := ⟨hG7.os, hG7.tape, hG7.output, hG7.size, hG7.block⟩
    have hin6 := (hw'.out.snoc ha hb' hc hE)
    have hfin : Hid (BookAt p B w7 bk bn bw kv6 ks6 (after rows p.most (nextRow p rows a b c)) (wk ++ [((a, b, c), idOf rows p.most (nextRow p rows a b c))])) :=
      B6'.out.putW hG7'.out (by rw [wrkL_snoc]; exact hM7) (fun x hx => by obtain ⟨q1, q2, q3, q4, _⟩ := hin6 x hx; exact ⟨q1, q2, q3, q4⟩)
    have hYF7 : Hid (YF B w' w7) := by
      obtain ⟨es, ck, hbm, _⟩ := B6'.out.wrk
      refine hYF.out.trans ⟨Below.grown (Below.refl B w6) hG7'.out (by have := hYF.out.1.size; omega) (fun k e => by injection e with e; subst e; exact B6'.out.Bw), fun g cs T fz hg _ _ => ?_⟩
      exact (hG7'.out.block g (Array.getElem?_eq_some_iff.1 hg).1 (fun e => by injection e with e; exact ne_blocks hg hbm (by simp) e)).trans hg
    have hin7 := Lib.hid hin6
    have c20 : w6.cell? ⟨bk, 20, none⟩ = some (.map (some bw)) := B6'.out.cell rfl
    have q0 : w6.cell? ⟨w'.heap.size, 0, none⟩ = some (.int .i64 (a : Int)) := by rw [cell_of_row w6 _ 0 _ 104 (0, 0) hask6]; rfl
    have q1 : w6.cell? ⟨w'.heap.size, 1, none⟩ = some (.int .i64 (b : Int)) := by rw [cell_of_row w6 _ 1 _ 104 (0, 0) hask6]; rfl
    have q2 : w6.cell? ⟨w'.heap.size, 2, none⟩ = some (.int .i64 (c : Int)) := by rw [cell_of_row w6 _ 2 _ 104 (0, 0) hask6]; rfl
    have hE' := Lib.hid hE
    rw [hE]
    clear hM7 hG7 hin6 B6 hyf hask6
    clear hE
    generalize hI : idOf rows p.most (nextRow p rows a b c) = I at *
    have hI' := Lib.hid hI
    clear hI
    go_upto_region 12 with fail
    go_still_tail 6, (by kernel_rfl)
    change wpList _ _ _ _ _ w6.drew
    generalize w6.drew = w65 at *
    go_wp2
    go_ret2
    exact ⟨by rw [hI'.out, hE'.out]; rfl, ⟨_, ⟨_, _, hfin.out⟩, hin7.out⟩, hYF7.out⟩
  · have hbk' := Lib.hid hbk
    have hwa := Lib.hid (hw'.out.after p.most (nextRow p rows a b c))
    clear hbk hyf hask6
    generalize hI : idOf rows p.most (nextRow p rows a b c) = I at *
    generalize hEE : errOf rows p.most (nextRow p rows a b c) = E at *
    have hI' := Lib.hid hI
    have hE' := Lib.hid hEE
    clear hI hEE
    go_wp2
    go_ret2
    exact ⟨by rw [hI'.out, hE'.out]; rfl, ⟨_, hbk'.out, hwa.out⟩, hYF.out⟩
end
end Go.Proofs.Ytigghbehnnghnaa
