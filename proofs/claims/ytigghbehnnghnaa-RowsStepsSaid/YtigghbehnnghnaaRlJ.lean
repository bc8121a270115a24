import Derived.Test.YtigghbehnnghnaaRlI
import Derived.Test.YtigghbehnnghnaaPkB
import Derived.Deep.AppendLies
namespace Go.Proofs.Ytigghbehnnghnaa
open Go.RowKit Go.RowBits Go.MapRaw Go.Maps
set_option linter.unusedSimpArgs false
set_option linter.unusedVariables false

theorem size5 : (Try.prog.info? 5).map (·.size) = some 1 := by kernel_rfl
section
variable {p : BP} {B : Nat} {W W' : World} {bk bn bw : Nat} {kv : Value} {ks : List Value} {rows : List (List Nat)} {wk : List ((Nat × Nat × Nat) × Nat)}
/-- The list of the rows, opened at one. -/
theorem BookAt.at (h : BookAt p B W bk bn bw kv ks rows wk) {i : Nat} (hi : i < rows.length) : ∃ gk cap gr, kv = .slice (some ⟨gk, 0, none⟩) rows.length cap ∧ W.cell? ⟨gk, i, none⟩ = some (.slice (some ⟨gr, 0, none⟩) p.n p.n) ∧ YBlk W gr (rows.getD i []) := by
  obtain ⟨gk, cap, rfl, _, _⟩ := h.kept.form (by omega)
  obtain ⟨gr, h1, h2⟩ := h.row i hi
  exact ⟨gk, cap, gr, rfl, by rw [h.kept.cellAt i (by omega)]; exact h1, h2⟩

set_option maxRecDepth 20000 in
set_option maxHeartbeats 2000000 in
theorem cells24 (h : BookAt p B W bk bn bw kv ks rows wk) (hn : p.n ≤ 65536) {id : Nat} (hid : id < rows.length) : Calls Try.prog 24 #[.pointer (some ⟨bk, 0, none⟩), .int .i64 (id : Int)] W fun e w' =>
    ∃ g, e = .returned (.tuple #[.slice (some ⟨g, 0, none⟩) p.n p.n, .int .i64 0]) ∧ W.heap.size ≤ g ∧ YBlk w' g (rows.getD id []) ∧ Below W.heap.size W w' := by
  have K1 := Lib.hid (none51 h)
  have K2 := Lib.hid (has52 h (id := (id : Int)) ⟨by omega, by omega⟩)
  obtain ⟨gk, cap, gr, rfl, c2, hY⟩ := h.at hid
  have c0 : W.cell? ⟨bk, 12, none⟩ = some (.int .i64 (p.n : Int)) := h.cell rfl
  have c1 : W.cell? ⟨bk, 19, none⟩ = some (.slice (some ⟨gk, 0, none⟩) rows.length cap) := h.cell rfl
  have hbk : bk < W.heap.size := World.block_lt_of_cell? W _ c0
  have hgk : gk < W.heap.size := World.block_lt_of_cell? W _ c2
  have hl := Lib.hid (h.len id hid)
  have hY' := Lib.hid hY
  have hgr := hY.lt
  have hidI : (id : Int) < (rows.length : Int) := by omega
  have hmk := fun m => run_make_row' (P := Try.prog) 53 5 (.int .u8 0) 1 Try.underlying53 info5' rfl .i64 .i64 m
  generalize p.n = n at *
  have hmkn : ∀ W, (Instr.makeSlice 53 (.int .i64 (n : Int)) (.int .i64 (n : Int))).run Try.prog W = .ok (.slice (some ⟨W.heap.size, 0, none⟩) n n) (W.alloc (.cells (madeCells #[.int .u8 0] n) 5)) := fun W => hmk n (by omega) (by omega) W
  generalize rows.getD id [] = r at *
  generalize rows.length = R at *
  clear h hmk hY
  have hY2 := Lib.hid (YBlk.new W _ (List.replicate n 0) (made_bytes n))
  have hBn : Hid (Below W.heap.size W (W.alloc (.cells (madeCells #[.int .u8 0] n) 5))) := below_new _
  go_enter Try.func24, Try.ntmps24
  go_wp2_with fail
  refine (K1.out).mono ?_
  rintro e w' ⟨rfl, rfl⟩
  go_wp2_with fail
  refine (K2.out).mono ?_
  rintro e w' ⟨rfl, rfl⟩
  go_wp2_with (first
    | (refine wpList_copy_words rfl _ _ 53 53 rfl 5 Try.underlying53 size5 (some ⟨gr, 0, none⟩) n n n w'.heap.size rfl rfl ((List.replicate n 0).map yv) 5 hY2.out (r.map yv) (by rw [List.length_map]; exact hl.out) (by simp) ?q4 ?q5 ?_)
    | go_in)
  case q4 =>
    intro hp
    refine ⟨_, rfl, fun j u hj => ?_⟩
    have hj' : j < r.length := by
      have := (List.getElem?_eq_some_iff.1 hj).1
      simpa using this
    have e1 : u = .int .u8 ((r.getD j 0 : Nat) : Int) := by
      rw [List.getElem?_map, List.getElem?_eq_getElem hj'] at hj
      simp [hj', yv] at hj ⊢
      exact hj.symm
    subst e1
    rw [Addr.add_lit, Nat.zero_add]
    exact (hY'.out.kept hBn.out).cell hj'
  case q5 => intro u hu; obtain ⟨x, _, rfl⟩ := List.mem_map.1 hu; rfl
  intro w3 hb3 hg3
  have hY3 : Hid (YBlk w3 w'.heap.size r) := hb3
  have hB3 := Lib.hid (Below.grown hBn.out hg3 (by simp) (fun k e => by injection e with e; omega))
  clear hb3 hg3
  go_wp2
  go_ret2
  exact ⟨_, rfl, Nat.le_refl _, hY3.out, hB3.out⟩
end
end Go.Proofs.Ytigghbehnnghnaa
